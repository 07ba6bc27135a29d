/- Merged texts: Cm17, TpB, CmL, Cm19, Ten, Ten2, Ten3, Ten4, CoT. -/
import Derived.Test.YtfnmggmgdmokcaaGreatCq27
import Derived.Test.YtfnmggmgdmokcaaGreatOpen
set_option linter.unusedVariables false
/- The law's awake. -/
namespace Go.Proofs.YtfnmggmgdmokcaaGreat.Cm
open Go.RowKit Go.Proofs.YtfnmggmgdmokcaaGreat.Tp Go.Proofs.YtfnmggmgdmokcaaGreat.Ara Go.Proofs.YtfnmggmgdmokcaaGreat.Lok Go.Proofs.YtfnmggmgdmokcaaGreat.Fl Go.Proofs.YtfnmggmgdmokcaaGreat.Co

def nwA : Nw := nwOf twoP twoT 2 4 1 1
def pmA : Pm := nwA.pm (Ar.fresh 99)
def xA0 : CS := nwA.st (Ar.fresh 99)
def xA1 : CS := askC pmA xA0 0
def xA2 : CS := (stepsC pmA 20 xA1 0).2
def xA3 : CS := askC pmA xA2 1
def xA4 : CS := (stepsC pmA 20 xA3 1).2
def xA5 : CS := askC pmA xA4 2
def xA6 : CS := (stepsC pmA 20 xA5 2).2
def xA7 : CS := leaveC xA6 0
def xA8 : CS := (stepsC pmA 20 xA7 0).2
def xA9 : CS := (stepsC pmA 9 xA8 2).2
def xA10 : CS := (stepsC pmA 9 xA9 1).2
def xA11 : CS := leaveC xA10 1
def xA12 : CS := (stepsC pmA 20 xA11 1).2
def xA13 : CS := (stepsC pmA 9 xA12 2).2
theorem a0 : turnB xA0.S 0 0 = true := by kernel_rfl
theorem a1 : (stepsC pmA 20 xA1 0).1 = true := by kernel_rfl
theorem a2 : cntV (spOf xA2.S 0) = 1 := by kernel_rfl
theorem a3 : turnB xA2.S 1 0 = true := by kernel_rfl
theorem a4 : (stepsC pmA 20 xA3 1).1 = false := by kernel_rfl
theorem a5 : turnB xA4.S 2 0 = true := by kernel_rfl
theorem a6 : (stepsC pmA 20 xA5 2).1 = false := by kernel_rfl
theorem a7 : pasB pmA xA6 1 = true := by kernel_rfl
theorem a8 : gloV pmA xA6 0 = 3 := by kernel_rfl
theorem a9 : gloV pmA xA6 1 = 2 := by kernel_rfl
theorem a10 : turnB xA6.S 0 10 = true := by kernel_rfl
theorem a11 : (stepsC pmA 20 xA7 0).1 = true := by kernel_rfl
theorem a12 : (stepsC pmA 9 xA8 2).1 = false := by kernel_rfl
theorem a13 : (stepsC pmA 9 xA9 1).1 = true := by kernel_rfl
theorem a14 : cntV (spOf xA10.S 1) = 2 := by kernel_rfl
theorem a15 : turnB xA10.S 1 10 = true := by kernel_rfl
theorem a16 : (stepsC pmA 20 xA11 1).1 = true := by kernel_rfl
theorem a17 : (stepsC pmA 9 xA12 2).1 = true := by kernel_rfl
theorem a18 : cntV (spOf xA13.S 2) = 1 := by kernel_rfl
theorem hckA : chk twoP twoT = 0 := by decide
theorem okA : nwA.Ok := nw_ok hckA (by decide) (by decide) (by decide) (by decide)
theorem roomA : nwA.tN (Ar.fresh 99).t nwA.NN ≤ (Ar.fresh 99).ws.length := by decide
theorem brA : Bud.right pmA.B = true := by decide
theorem djA : Dj pmA := Nw.dj okA roomA
theorem c0A : CI pmA xA0 3 := Nw.ci okA roomA (fun k _ => zeros_at 99 k) (by decide) (by decide)
theorem c1A : CI pmA xA1 4 := c0A.ask djA 0
theorem c2A : CI pmA xA2 24 := stepsC_ci djA 0 20 c1A
theorem c3A : CI pmA xA3 25 := c2A.ask djA 1
theorem c4A : CI pmA xA4 45 := stepsC_ci djA 1 20 c3A
theorem c5A : CI pmA xA5 46 := c4A.ask djA 2
theorem c6A : CI pmA xA6 66 := stepsC_ci djA 2 20 c5A
theorem c7A : CI pmA xA7 67 := c6A.leave djA 0
theorem c8A : CI pmA xA8 87 := stepsC_ci djA 0 20 c7A
theorem c9A : CI pmA xA9 96 := stepsC_ci djA 2 9 c8A
theorem c10A : CI pmA xA10 105 := stepsC_ci djA 1 9 c9A
theorem c11A : CI pmA xA11 106 := c10A.leave djA 1
theorem c12A : CI pmA xA12 126 := stepsC_ci djA 1 20 c11A
section
variable {W : World} {c : Cd}
abbrev KA (W0 W : World) (c : Cd) (x : CS) : Prop := CoAt W c pmA x ∧ Below W0.heap.size W0 W
theorem kA {W0 W W' : World} {x' : CS} (hc : ∀ b, b < W0.heap.size → c.col b = 0) (hb : Below W0.heap.size W0 W) (h : CoAt W' c pmA x') (k : Kp c.col W W') : KA W0 W' c x' := ⟨h, hb.trans (k.below hb.size hc)⟩
theorem kB {W0 W W' : World} {x : CS} (h : KA W0 W c x) (b : Below W.heap.size W W') : KA W0 W' c x := ⟨h.1.same b, h.2.trans (b.mono h.2.size)⟩
end
set_option maxRecDepth 100000 in
set_option maxHeartbeats 4000000 in
theorem awake_any (w : World) : Calls Tryz.prog 10 #[] w fun e w' => e = .returned (.bool true) ∧ Below w.heap.size w w' := by
  go_enter Tryz.func10, Tryz.ntmps10
  go_wp2_with fail
  refine (new_in 99 _).mono ?_
  rintro e w1 ⟨rfl, ha1, hz1, b1⟩
  have HA1 := Lib.hid ha1
  have HB1 := Lib.hid b1
  clear ha1 b1
  go_wp2_with fail
  refine (two_any _).mono ?_
  rintro e w2 ⟨A, B, rfl, s1, s2, b2⟩
  have hz2 := b2.size
  have HNW := Lib.hid (new_co twoP twoT A B 3 4 w2 hckA s1 s2 (w.heap.size + 1) w.heap.size (Ar.fresh 99) (HA1.out.step b2) (by omega) (by omega) 2 4 1 1 okA brA roomA (by decide) (by decide))
  have HB2 := Lib.hid (HB1.out.trans (b2.mono HB1.out.size))
  clear s1 s2 b2
  go_wp2_with fail
  refine HNW.out.mono ?_
  rintro e w3 ⟨cd, rfl, hK, ⟨g1, g2, g3⟩, hcol, hm3⟩
  have HCOL := Lib.hid (show ∀ b, b < w.heap.size → cd.col b = 0 from fun b hb => hcol b (by omega) (by omega) (by omega))
  have HGA := Lib.hid g1
  have HK := Lib.hid (show KA w w3 cd xA0 from ⟨hK, HB2.out.trans (hm3.below (by omega) (by simp))⟩)
  clear hK g1 g2 g3 hcol hm3 HNW HA1
  go_wp2_with fail
  refine (ask_co HK.out.1 djA c0A (by decide) 0).mono ?_
  rintro e w9 ⟨rfl, hk9, hp9⟩
  have HK9 := Lib.hid (kA HCOL.out HK.out.2 hk9 hp9)
  clear hk9 hp9 HK
  have HK := Lib.hid (show KA w w9 cd xA1 from HK9.out)
  clear HK9
  rw [a0]
  go_wp2_with fail
  refine (steps_co HK.out.1 djA c1A 20 (by decide) brA 0).mono ?_
  rintro e w9 ⟨rfl, hk9, hp9⟩
  have HK9 := Lib.hid (kA HCOL.out HK.out.2 hk9 hp9)
  clear hk9 hp9 HK
  have HK := Lib.hid (show KA w w9 cd xA2 from HK9.out)
  clear HK9
  rw [a1]
  go_wp2_with fail
  refine (count_co HK.out.1 0).mono ?_
  rintro e w9 ⟨rfl, hb9⟩
  have HK9 := Lib.hid (kB HK.out hb9)
  clear hb9 HK
  have HK := Lib.hid HK9.out
  clear HK9
  rw [a2]
  go_wp2_with fail
  refine (ask_co HK.out.1 djA c2A (by decide) 1).mono ?_
  rintro e w9 ⟨rfl, hk9, hp9⟩
  have HK9 := Lib.hid (kA HCOL.out HK.out.2 hk9 hp9)
  clear hk9 hp9 HK
  have HK := Lib.hid (show KA w w9 cd xA3 from HK9.out)
  clear HK9
  rw [a3]
  go_wp2_with fail
  refine (steps_co HK.out.1 djA c3A 20 (by decide) brA 1).mono ?_
  rintro e w9 ⟨rfl, hk9, hp9⟩
  have HK9 := Lib.hid (kA HCOL.out HK.out.2 hk9 hp9)
  clear hk9 hp9 HK
  have HK := Lib.hid (show KA w w9 cd xA4 from HK9.out)
  clear HK9
  rw [a4]
  go_wp2_with fail
  refine (ask_co HK.out.1 djA c4A (by decide) 2).mono ?_
  rintro e w9 ⟨rfl, hk9, hp9⟩
  have HK9 := Lib.hid (kA HCOL.out HK.out.2 hk9 hp9)
  clear hk9 hp9 HK
  have HK := Lib.hid (show KA w w9 cd xA5 from HK9.out)
  clear HK9
  rw [a5]
  go_wp2_with fail
  refine (steps_co HK.out.1 djA c5A 20 (by decide) brA 2).mono ?_
  rintro e w9 ⟨rfl, hk9, hp9⟩
  have HK9 := Lib.hid (kA HCOL.out HK.out.2 hk9 hp9)
  clear hk9 hp9 HK
  have HK := Lib.hid (show KA w w9 cd xA6 from HK9.out)
  clear HK9
  rw [a6]
  go_wp2_with fail
  refine (passed_co HK.out.1 djA 1).mono ?_
  rintro e w9 ⟨rfl, hb9⟩
  have HK9 := Lib.hid (kB HK.out hb9)
  clear hb9 HK
  have HK := Lib.hid HK9.out
  clear HK9
  rw [a7]
  go_wp2_with fail
  refine (global_co HK.out.1 0).mono ?_
  rintro e w9 ⟨rfl, hb9⟩
  have HK9 := Lib.hid (kB HK.out hb9)
  clear hb9 HK
  have HK := Lib.hid HK9.out
  clear HK9
  rw [a8]
  go_wp2_with fail
  refine (global_co HK.out.1 1).mono ?_
  rintro e w9 ⟨rfl, hb9⟩
  have HK9 := Lib.hid (kB HK.out hb9)
  clear hb9 HK
  have HK := Lib.hid HK9.out
  clear HK9
  rw [a9]
  go_wp2_with fail
  refine (leave_co HK.out.1 0).mono ?_
  rintro e w9 ⟨rfl, hk9, hp9⟩
  have HK9 := Lib.hid (kA HCOL.out HK.out.2 hk9 hp9)
  clear hk9 hp9 HK
  have HK := Lib.hid (show KA w w9 cd xA7 from HK9.out)
  clear HK9
  rw [a10]
  go_wp2_with fail
  refine (steps_co HK.out.1 djA c7A 20 (by decide) brA 0).mono ?_
  rintro e w9 ⟨rfl, hk9, hp9⟩
  have HK9 := Lib.hid (kA HCOL.out HK.out.2 hk9 hp9)
  clear hk9 hp9 HK
  have HK := Lib.hid (show KA w w9 cd xA8 from HK9.out)
  clear HK9
  rw [a11]
  go_wp2_with fail
  refine (steps_co HK.out.1 djA c8A 9 (by decide) brA 2).mono ?_
  rintro e w9 ⟨rfl, hk9, hp9⟩
  have HK9 := Lib.hid (kA HCOL.out HK.out.2 hk9 hp9)
  clear hk9 hp9 HK
  have HK := Lib.hid (show KA w w9 cd xA9 from HK9.out)
  clear HK9
  rw [a12]
  go_wp2_with fail
  refine (steps_co HK.out.1 djA c9A 9 (by decide) brA 1).mono ?_
  rintro e w9 ⟨rfl, hk9, hp9⟩
  have HK9 := Lib.hid (kA HCOL.out HK.out.2 hk9 hp9)
  clear hk9 hp9 HK
  have HK := Lib.hid (show KA w w9 cd xA10 from HK9.out)
  clear HK9
  rw [a13]
  go_wp2_with fail
  refine (count_co HK.out.1 1).mono ?_
  rintro e w9 ⟨rfl, hb9⟩
  have HK9 := Lib.hid (kB HK.out hb9)
  clear hb9 HK
  have HK := Lib.hid HK9.out
  clear HK9
  rw [a14]
  go_wp2_with fail
  refine (leave_co HK.out.1 1).mono ?_
  rintro e w9 ⟨rfl, hk9, hp9⟩
  have HK9 := Lib.hid (kA HCOL.out HK.out.2 hk9 hp9)
  clear hk9 hp9 HK
  have HK := Lib.hid (show KA w w9 cd xA11 from HK9.out)
  clear HK9
  rw [a15]
  go_wp2_with fail
  refine (steps_co HK.out.1 djA c11A 20 (by decide) brA 1).mono ?_
  rintro e w9 ⟨rfl, hk9, hp9⟩
  have HK9 := Lib.hid (kA HCOL.out HK.out.2 hk9 hp9)
  clear hk9 hp9 HK
  have HK := Lib.hid (show KA w w9 cd xA12 from HK9.out)
  clear HK9
  rw [a16]
  go_wp2_with fail
  refine (steps_co HK.out.1 djA c12A 9 (by decide) brA 2).mono ?_
  rintro e w9 ⟨rfl, hk9, hp9⟩
  have HK9 := Lib.hid (kA HCOL.out HK.out.2 hk9 hp9)
  clear hk9 hp9 HK
  have HK := Lib.hid (show KA w w9 cd xA13 from HK9.out)
  clear HK9
  rw [a17]
  go_wp2_with fail
  refine (count_co HK.out.1 2).mono ?_
  rintro e w9 ⟨rfl, hb9⟩
  have HK9 := Lib.hid (kB HK.out hb9)
  clear hb9 HK
  have HK := Lib.hid HK9.out
  clear HK9
  rw [a18]
  go_wp2_with fail
  refine (two_any _).mono ?_
  rintro e w10 ⟨A2, B2, rfl, s1, s2, b2⟩
  have HK9 := Lib.hid (kB HK.out b2)
  have HBD := Lib.hid (new_bad twoP twoT A2 B2 3 4 w10 hckA s1 s2 (some ⟨w.heap.size + 1, 0, none⟩) 2 2 1 (-1) (by decide))
  clear s1 s2 b2 HK
  go_wp2_with fail
  refine HBD.out.mono ?_
  rintro e w11 ⟨rfl, b3⟩
  have HK := Lib.hid (kB HK9.out b3)
  clear b3 HK9 HBD
  go_wp2_with fail
  refine (threads_co HK.out.1).mono ?_
  rintro e wx ⟨rfl, hwx⟩
  obtain rfl := hwx.symm
  go_wp2_with fail
  go_ret
  exact ⟨rfl, HK.out.2⟩
end Go.Proofs.YtfnmggmgdmokcaaGreat.Cm

/- A topology as an argument: how it is read. -/
namespace Go.Proofs.YtfnmggmgdmokcaaGreat.Tp
open Go.RowKit Go.ChangeShapes Go.WideShapes Go.Deep Go.Proofs.YtfnmggmgdmokcaaGreat.Li Go.Proofs.YtfnmggmgdmokcaaGreat.De Go.Proofs.YtfnmggmgdmokcaaGreat.Ara Go.Proofs.YtfnmggmgdmokcaaGreat.Ara
theorem arg_topo {H : Type} {enc : TypeId × Value → H} {w : World} {base : Nat} {spare : Nat → Bool} {held : Bool} {v : Value} {D : DataW H} {pl : List MemPlace} (hv : ∃ cs, v = .agg cs) (h : DataW.Trod enc Tryz.prog w base spare held 24 v D pl) :
    ∃ (A B : Option Addr) (c d : Nat) (p t : List Int), v = .agg #[.slice A p.length c, .slice B t.length d] ∧ p.length ≤ c ∧ c ≤ maxLen ∧ t.length ≤ d ∧ d ≤ maxLen ∧ Sl w w.heap.size A (p.flatMap decI) ∧ Sl w w.heap.size B (t.flatMap decI) := by
  obtain ⟨cs, rfl⟩ := hv
  obtain ⟨fuel, hf⟩ := h
  obtain ⟨hl, hfl⟩ := fields_of Tryz.underlying24 (by kernel_rfl) (by kernel_rfl) hf
  have hl2 : cs.toList.length = 2 := hl
  obtain ⟨x, y, e⟩ := list2 hl2
  have e' : (Value.agg cs).cells.toList = [x, y] := e
  rw [e'] at hfl
  obtain ⟨_, _, g0⟩ := hfl 0 _ x rfl rfl
  obtain ⟨_, _, g1⟩ := hfl 1 _ y rfl rfl
  obtain ⟨A, n, c, p, h1, rfl, h2, h3, _, h4⟩ := slice_of (k := 1) Tryz.underlying22 (by kernel_rfl) (fun _ => rfl) (reads_i64 Tryz.underlying3) g0
  obtain ⟨B, m, d, t, k1, rfl, k2, k3, _, k4⟩ := slice_of (k := 1) Tryz.underlying22 (by kernel_rfl) (fun _ => rfl) (reads_i64 Tryz.underlying3) g1
  injection h1 with h1
  injection k1 with k1
  subst h1 k1
  refine ⟨A, B, c, d, p, t, ?_, h2, h3, k2, k3, h4, k4⟩
  congr 1
  apply Array.ext'
  rw [e]
end Go.Proofs.YtfnmggmgdmokcaaGreat.Tp

/- What the laws' loops have of memory. -/
namespace Go.Proofs.YtfnmggmgdmokcaaGreat.Cm
open Go.RowKit Go.Proofs.YtfnmggmgdmokcaaGreat.Tp Go.Proofs.YtfnmggmgdmokcaaGreat.Ara Go.Proofs.YtfnmggmgdmokcaaGreat.Lok Go.Proofs.YtfnmggmgdmokcaaGreat.Fl Go.Proofs.YtfnmggmgdmokcaaGreat.Co

theorem reads_ac {H : Type} {enc : TypeId × Value → H} : Reads enc Tryz.prog 37 decAc (fun e => isI64 e.kind ∧ isI64 e.i) :=
  (reads_s2 (d0 := Value.int .i64) (d1 := Value.int .i64) Tryz.underlying37 (by kernel_rfl) (by kernel_rfl) (reads_i64 Tryz.underlying3) (reads_i64 Tryz.underlying3)).map
    (fun p => ⟨p.1, p.2⟩) (fun _ => rfl) (fun _ h => h)

theorem Bx_kp {w W W' : World} {x y : Value} {col : Nat → Nat} (h : Bx w W x y) (k : Kp col W W') (hc : ∀ q, q < w.heap.size + 1 → col q = 0) : Bx w W' x y := by
  obtain ⟨h1, h2, h3, h4⟩ := h
  exact ⟨h1.trans (k.below h1.size (fun b hb => hc b (by omega))), Nat.lt_of_lt_of_le h2 k.size, (k.cell (p := ⟨w.heap.size, 0, none⟩) h2 (hc _ (Nat.lt_succ_self _))).trans h3, (k.cell (p := ⟨w.heap.size, 1, none⟩) h2 (hc _ (Nat.lt_succ_self _))).trans h4⟩
structure LpW (w : World) (cd : Cd) (P : Pm) (x : CS) (m : Nat) (X Y : Value) (W : World) : Prop where
  k : CoAt W cd P x
  h : CI P x m
  b : Bx w W X Y
theorem LpW.same {w : World} {cd : Cd} {P : Pm} {x : CS} {m : Nat} {X Y : Value} {W W' : World} (h : LpW w cd P x m X Y W) (b : Below W.heap.size W W') : LpW w cd P x m X Y W' := ⟨h.k.same b, h.h, h.b.step b⟩
theorem LpW.act {w : World} {cd : Cd} {P : Pm} {x : CS} {m : Nat} {X Y : Value} {W W' : World} (h : LpW w cd P x m X Y W) (D : Dj P) (hc : ∀ q, q < w.heap.size + 1 → cd.col q = 0) (kd i : Int) (k : CoAt W' cd P (doC P x kd i)) (kp : Kp cd.col W W') : LpW w cd P (doC P x kd i) (m + 1) X Y W' := ⟨k, h.h.act D kd i, Bx_kp h.b kp hc⟩
theorem list3 {α : Type} {l : List α} (h : l.length = 3) : ∃ a b c, l = [a, b, c] := by
  match l, h with
  | [a, b, c], _ => exact ⟨a, b, c, rfl⟩
end Go.Proofs.YtfnmggmgdmokcaaGreat.Cm

/- Package cohort: other blocks are turned, among them such as were made since; the references' leaves. -/
namespace Go.Proofs.YtfnmggmgdmokcaaGreat.Cm
open Go.RowKit Go.Proofs.YtfnmggmgdmokcaaGreat.Tp Go.Proofs.YtfnmggmgdmokcaaGreat.Ara Go.Proofs.YtfnmggmgdmokcaaGreat.Lok Go.Proofs.YtfnmggmgdmokcaaGreat.Fl Go.Proofs.YtfnmggmgdmokcaaGreat.Co

structure Hi (c : Cd) (NN M : Nat) : Prop where
  a : (c.gl < M ∧ c.gt < M ∧ c.gn < M ∧ c.gs < M) ∧ (c.hn < M ∧ c.hs < M ∧ c.gf < M ∧ c.gk < M ∧ c.gh < M) ∧ (c.ga < M ∧ c.ha < M)
  l : ∀ n, n < NN → c.lf n < M ∧ c.lk n < M ∧ c.lh n < M
section
variable {W W' : World} {c : Cd} {P : Pm} {x : CS} (K : CoAt W c P x)
include K
theorem CoAt.hi : Hi c P.NN W.heap.size := by
  obtain ⟨s1, s2, s3, s4, s5⟩ := K.s.sz
  have hf := K.d.fg.blocks
  refine ⟨⟨⟨K.lt.1, s1, s2, s3⟩, ⟨s4, K.lt.2, hf.1, hf.2.1, hf.2.2.2⟩, hf.2.2.1, s5⟩, fun n hn => ?_⟩
  have hb := (K.d.fl n hn).blocks
  exact ⟨hb.1, hb.2.1, hb.2.2.2⟩
theorem CoAt.high {M : Nat} (hi : Hi c P.NN M) {S : List Nat} (hm : Mod S W W') (hS : ∀ b ∈ S, M ≤ b) : CoAt W' c P x := by
  obtain ⟨⟨a1, a2, a3, a4⟩, ⟨a5, a6, a7, a8, a9⟩, b1, b2⟩ := hi.a
  obtain ⟨s1, s2, s3, s4, s5⟩ := K.s.sz
  have ne : ∀ q, q < M → q ∉ S := fun q hq hx => by have := hS q hx; omega
  have cm : ∀ (g i : Nat), g < W.heap.size → g < M → W'.cell? ⟨g, i, none⟩ = W.cell? ⟨g, i, none⟩ := fun g i h1 h2 => by
    unfold World.cell?
    rw [hm.block g h1 (ne g h2)]
  have hsz := hm.size
  refine ⟨⟨hm.blk K.s.lk_ (ne _ a1), (cm _ _ s1 a2).trans K.s.t1, (cm _ _ s1 a2).trans K.s.t2, (cm _ _ s1 a2).trans K.s.t6, (cm _ _ s1 a2).trans K.s.t7, fun k hk => (cm _ _ s2 a3).trans (K.s.rn k hk), fun k hk => (cm _ _ s3 a4).trans (K.s.rs k hk), fun n hn => ⟨(cm _ _ s4 a5).trans (K.s.nr n hn).1, (cm _ _ s4 a5).trans (K.s.nr n hn).2⟩, K.s.c0, K.s.cl, K.s.ch, by omega, fun b hb => K.s.fresh b (by omega)⟩,
    ⟨K.d.ar.mod hm (ne _ b1) (ne _ b2), K.d.sp.mod hm (ne _ a6), K.d.fg.mod hm (ne _ a7) (ne _ a8) (ne _ b1) (ne _ b2) (ne _ a9), fun n hn => ?_⟩, K.len⟩
  obtain ⟨l1, l2, l3⟩ := hi.l n hn
  exact (K.d.fl n hn).mod hm (ne _ l1) (ne _ l2) (ne _ b1) (ne _ b2) (ne _ l3)
end
end Go.Proofs.YtfnmggmgdmokcaaGreat.Cm

/- Walks of package tenure and its reference: the small functions. -/
namespace Go.Proofs.YtfnmggmgdmokcaaGreat.Ten
open Go.RowKit

structure Ev where
  kind : Int
  thread : Int
  read : Bool
  count : Int
structure Rn where
  node : Int
  frm : Int
  many : Int
  deriving DecidableEq
def decEv (e : Ev) : List Value := [.int .i64 e.kind, .int .i64 e.thread, .bool e.read, .int .i64 e.count]
def decRn (r : Rn) : List Value := [.int .i64 r.node, .int .i64 r.frm, .int .i64 r.many]
def decI (n : Int) : List Value := [.int .i64 n]

def nodeOf (l : List Int) (t : Int) : Int := if 0 ≤ t ∧ t < l.length then l.getD t.toNat 0 else -1

theorem node_any (l : List Int) (A : Option Addr) (cap : Nat) (t : Int) (B : Nat) (w : World) (hc : l.length ≤ cap) (hm : cap ≤ maxLen) (hs : Sl w B A (l.flatMap decI)) :
    Calls Tryz.prog 44 #[.slice A l.length cap, .int .i64 t] w fun e w' => e = .returned (.int .i64 (nodeOf l t)) ∧ w' = w := by
  by_cases h : 0 ≤ t ∧ t < l.length
  · obtain ⟨h0, h1⟩ := h
    rw [show nodeOf l t = l.getD t.toNat 0 by simp [nodeOf, h0, h1]]
    obtain ⟨k, rfl⟩ := Int.eq_ofNat_of_zero_le h0
    have hk : k < l.length := by omega
    obtain ⟨b, off, rfl, _, hcell⟩ := Sl_at (k := 1) (fun _ => rfl) (by omega) hs (by omega)
    have h2 := hcell k hk 0 (by omega)
    simp only [Nat.mul_one, Nat.add_zero, decI, List.getElem?_cons_zero] at h2
    rw [show l.getD (Int.toNat (k : Int)) 0 = l[k] by simp [hk]]
    clear hcell hs hc hm
    go_enter Tryz.func44, Tryz.ntmps44
    go_wp2
    go_ret
    exact ⟨rfl, rfl⟩
  · rw [show nodeOf l t = -1 by simp only [nodeOf, if_neg h]]
    by_cases h0 : t < 0
    · go_enter Tryz.func44, Tryz.ntmps44
      go_wp2
      go_ret
      exact ⟨rfl, rfl⟩
    · have h1 : (l.length : Int) ≤ t := by omega
      clear h
      go_enter Tryz.func44, Tryz.ntmps44
      go_wp2
      go_ret
      exact ⟨rfl, rfl⟩

def mx (a b : Int) : Int := if a < b then b else a
def longest (l : List Rn) : Int := l.foldl (fun m r => mx m r.many) 0
theorem fold_snoc (l : List Rn) (k : Nat) (h : k < l.length) : longest (l.take (k + 1)) = mx (longest (l.take k)) l[k].many := by
  unfold longest
  rw [List.take_succ_eq_append_getElem h, List.foldl_append]
  rfl

set_option maxHeartbeats 400000 in
theorem longest_any (l : List Rn) (A : Option Addr) (cap : Nat) (w : World) (hm : l.length ≤ 9223372036854775807) (hs : Sl w w.heap.size A (l.flatMap decRn)) :
    Calls Tryz.prog 26 #[.slice A l.length cap] w fun e w' => e = .returned (.int .i64 (longest l)) ∧ Below w.heap.size w w' := by
  go_enter Tryz.func26, Tryz.ntmps26
  go_wp2
  go_loopw [3, 8] (fun m i wr => ∃ k : Nat, k ≤ l.length ∧ i = .int .i64 k ∧ m = .int .i64 (longest (l.take k)) ∧ Below w.heap.size w wr) (fun _ i _ => l.length - (intOf i).toNat)
  case atStart => exact ⟨0, by omega, rfl, rfl, Below.refl _ _⟩
  case round =>
    obtain ⟨k, hk, rfl, rfl, hb⟩ := hrel
    by_cases hlt : k < l.length
    · have hf := Lib.hid (fold_snoc l k hlt)
      obtain ⟨b, off, rfl, hbb, hcell⟩ := Sl_at (k := 3) (fun _ => rfl) (by omega) (hs.below hb) (by omega)
      have h0 := hcell k hlt 0 (by omega)
      have h1 := hcell k hlt 1 (by omega)
      have h2 := hcell k hlt 2 (by omega)
      simp only [decRn, List.getElem?_cons_zero, List.getElem?_cons_succ, Nat.add_zero, ← Nat.add_assoc] at h0 h1 h2
      clear hcell
      generalize l[k] = r at h0 h1 h2 hf
      generalize longest (l.take k) = m at hf ⊢
      go_wp2
      go_roundw
      case rel => exact ⟨k + 1, by omega, by go_num, by rw [hf.out]; rfl, hb.alloc hb.size _⟩
      case measure => simp [intOf]; omega
    · go_wp2
      go_ret
      exact ⟨by rw [List.take_of_length_le (by omega)]; rfl, hb⟩

end Go.Proofs.YtfnmggmgdmokcaaGreat.Ten

/- Walks of package tenure and its reference: Turns, Same, entries. -/
namespace Go.Proofs.YtfnmggmgdmokcaaGreat.Ten
open Go.RowKit

def turnAt (l : List Rn) (i : Nat) : Bool := match l[i]?, l[i - 1]? with | some a, some b => a.node != b.node | _, _ => false
def turnsTo (l : List Rn) : Nat → Nat
  | 0 => 0
  | k + 1 => turnsTo l k + (if turnAt l (k + 1) then 1 else 0)
def turns (l : List Rn) : Int := turnsTo l (l.length - 1)
theorem turnsTo_le (l : List Rn) (k : Nat) : turnsTo l k ≤ k := by
  induction k with
  | zero => exact Nat.le_refl _
  | succ k ih => simp only [turnsTo]; split <;> omega

def neqR (r s : Rn) : Bool := decide (r ≠ s)
theorem run_neqR (r s : Rn) (w : World) : (binOp .neq 87 (.agg #[.int .i64 r.node, .int .i64 r.frm, .int .i64 r.many]) (.agg #[.int .i64 s.node, .int .i64 s.frm, .int .i64 s.many])).run Tryz.prog w = .ok (.bool (neqR r s)) w := by
  have h : neqR r s = !(r.node == s.node && (r.frm == s.frm && r.many == s.many)) := by
    cases r; cases s
    rw [Bool.eq_iff_iff]
    simp [neqR]
  rw [h]
  go_simp
  repeat' split
  all_goals simp_all

end Go.Proofs.YtfnmggmgdmokcaaGreat.Ten

/- Walks of package tenure and its reference: entries. -/
namespace Go.Proofs.YtfnmggmgdmokcaaGreat.Ten
open Go.RowKit

theorem infoEv : (Tryz.prog.info? 54).map (fun i => (i.zero, i.size, i.bytes)) = some (some (.agg #[.int .i64 0, .int .i64 0, .bool false, .int .i64 0]), 4, 32) := by kernel_rfl
theorem infoRn : (Tryz.prog.info? 87).map (fun i => (i.zero, i.size, i.bytes)) = some (some (.agg #[.int .i64 0, .int .i64 0, .int .i64 0]), 3, 24) := by kernel_rfl

def isEnter (e : Ev) : Bool := e.kind == 2
def entries (l : List Ev) : List Ev := l.filter isEnter
theorem entries_snoc (l : List Ev) (k : Nat) (h : k < l.length) : entries (l.take (k + 1)) = entries (l.take k) ++ (if isEnter l[k] then [l[k]] else []) := by
  unfold entries
  rw [List.take_succ_eq_append_getElem h, List.filter_append]
  cases hh : isEnter l[k] <;> simp [hh]
theorem entries_le (l : List Ev) (k : Nat) : (entries (l.take k)).length ≤ k := Nat.le_trans (List.length_filter_le _ _) (List.length_take_le _ _)

set_option maxHeartbeats 1000000 in
theorem entries_any (l : List Ev) (A : Option Addr) (cap : Nat) (w : World) (hm : l.length ≤ 65536) (hs : Sl w w.heap.size A (l.flatMap decEv)) :
    Calls Tryz.prog 43 #[.slice A l.length cap] w fun e w' => ∃ v, e = .returned v ∧ w'.ownsRow w.heap.size 54 4 v (entries l).length ((entries l).flatMap decEv) ∧ Below w.heap.size w w' := by
  obtain ⟨i0, hi0, hz0, hz1, hz2⟩ := info_parts infoEv
  go_enter Tryz.func43, Tryz.ntmps43
  go_wp2
  go_loopw [3, 8] (fun v i wr => ∃ k : Nat, k ≤ l.length ∧ i = .int .i64 k ∧ wr.ownsRow w.heap.size 54 4 v (entries (l.take k)).length ((entries (l.take k)).flatMap decEv) ∧ Below w.heap.size w wr) (fun _ i _ => l.length - (intOf i).toNat)
  case atStart => exact ⟨0, by omega, rfl, World.ownsRow_nil _ _ _ _, Below.refl _ _⟩
  case round =>
    obtain ⟨k, hk, rfl, hown, hb⟩ := hrel
    by_cases hlt : k < l.length
    · have hf := Lib.hid (entries_snoc l k hlt)
      have hle := entries_le l k
      obtain ⟨b, off, rfl, hbb, hcell⟩ := Sl_at (k := 4) (fun _ => rfl) (by omega) (hs.below hb) (by omega)
      have h0 := hcell k hlt 0 (by omega)
      have h1 := hcell k hlt 1 (by omega)
      have h2 := hcell k hlt 2 (by omega)
      have h3 := hcell k hlt 3 (by omega)
      simp only [decEv, List.getElem?_cons_zero, List.getElem?_cons_succ, Nat.add_zero, ← Nat.add_assoc] at h0 h1 h2 h3
      clear hcell
      generalize l[k] = r at h0 h1 h2 h3 hf
      generalize entries (l.take k) = es at hf hown hle
      cases hent : isEnter r
      · have hq : (r.kind == 2) = false := hent
        go_wp2
        go_roundw
        case rel => exact ⟨k + 1, by omega, by go_num, by rw [hf.out, hent]; simpa using hown.alloc _, hb.alloc hb.size _⟩
        case measure => simp [intOf]; omega
      · have hq : (r.kind == 2) = true := hent
        go_wp2_with (at_builtin; refine wpList_append1 (.tmp 15) (.tmp 17) 52 54 _ 4 32 rfl rfl Tryz.underlying52 infoEv rfl (by decide) w.heap.size _ _ _ _ _ _ _ _ (hown.alloc _) rfl rfl ?cg rfl ?c1 ?c2 ?c3 ?c4 ?ck; case' ck => intro v' w1 hown1 hb1 _)
        case cg => simp
        case c1 => simp [Value.oneCell']
        case c2 => simp only [maxLen]; omega
        case c3 => omega
        case c4 => have := hb.size; simp; omega
        go_roundw
        case rel => exact ⟨k + 1, by omega, by go_num, by rw [hf.out, hent]; simpa [decEv] using hown1, (hb.alloc hb.size _).trans hb1⟩
        case measure => simp [intOf]; omega
    · go_wp2
      go_ret
      rw [List.take_of_length_le (by omega)] at hown
      exact ⟨_, rfl, hown, hb⟩
end Go.Proofs.YtfnmggmgdmokcaaGreat.Ten

/- Walks of package tenure and its reference: Of. -/
namespace Go.Proofs.YtfnmggmgdmokcaaGreat.Ten
open Go.RowKit

def step (nodes : List Int) (out : List Rn) (n : Nat) (e : Ev) : Option (List Rn) :=
  match out.getLast? with
  | some r => if r.node = nodeOf nodes e.thread ∧ e.count = r.many + 1 then some (out.dropLast ++ [{ r with many := r.many + 1 }])
      else if e.count = 1 then some (out ++ [⟨nodeOf nodes e.thread, n, 1⟩]) else none
  | none => if e.count = 1 then some (out ++ [⟨nodeOf nodes e.thread, n, 1⟩]) else none
def run (nodes : List Int) : List Ev → Nat → List Rn → List Rn × Bool
  | [], _, out => (out, true)
  | e :: es, n, out => match step nodes out n e with
    | some out' => run nodes es (n + 1) out'
    | none => (out, false)
def ofAll (nodes : List Int) (l : List Ev) : List Rn × Bool := run nodes (entries l) 0 []

def goesOn (nodes : List Int) (out : List Rn) (e : Ev) : Prop := ∃ r, out.getLast? = some r ∧ r.node = nodeOf nodes e.thread ∧ e.count = r.many + 1

theorem run_go {nodes : List Int} {E : List Ev} {k : Nat} (hk : k < E.length) {out : List Rn} {r : Rn} (h1 : r.node = nodeOf nodes E[k].thread) (h2 : E[k].count = r.many + 1) :
    run nodes (E.drop k) k (out ++ [r]) = run nodes (E.drop (k + 1)) (k + 1) (out ++ [{ r with many := r.many + 1 }]) := by
  rw [List.drop_eq_getElem_cons hk, run]
  simp [step, h1, h2]
theorem run_new {nodes : List Int} {E : List Ev} {k : Nat} (hk : k < E.length) {out : List Rn} (h1 : ¬ goesOn nodes out E[k]) (h2 : E[k].count = 1) :
    run nodes (E.drop k) k out = run nodes (E.drop (k + 1)) (k + 1) (out ++ [⟨nodeOf nodes E[k].thread, k, 1⟩]) := by
  rw [List.drop_eq_getElem_cons hk, run]
  unfold step
  cases h : out.getLast? with
  | none => simp [h2]
  | some r =>
    have : ¬ (r.node = nodeOf nodes E[k].thread ∧ E[k].count = r.many + 1) := fun hh => h1 ⟨r, h, hh.1, hh.2⟩
    dsimp only
    rw [if_neg this, if_pos h2]
theorem run_no {nodes : List Int} {E : List Ev} {k : Nat} (hk : k < E.length) {out : List Rn} (h1 : ¬ goesOn nodes out E[k]) (h2 : ¬ E[k].count = 1) :
    run nodes (E.drop k) k out = (out, false) := by
  rw [List.drop_eq_getElem_cons hk, run]
  unfold step
  cases h : out.getLast? with
  | none => simp [h2]
  | some r =>
    have : ¬ (r.node = nodeOf nodes E[k].thread ∧ E[k].count = r.many + 1) := fun hh => h1 ⟨r, h, hh.1, hh.2⟩
    simp only [this, if_false, h2]
theorem run_end {nodes : List Int} {E : List Ev} {k : Nat} (hk : E.length ≤ k) {out : List Rn} : run nodes (E.drop k) k out = (out, true) := by
  rw [List.drop_of_length_le hk, run]
theorem not_goes_nil {nodes : List Int} {e : Ev} : ¬ goesOn nodes [] e := by rintro ⟨r, h, _⟩; simp at h
theorem not_goes_last {nodes : List Int} {out : List Rn} {r : Rn} {e : Ev} (h : ¬ (r.node = nodeOf nodes e.thread ∧ e.count = r.many + 1)) : ¬ goesOn nodes (out ++ [r]) e := by
  rintro ⟨s, h1, h2⟩
  rw [List.getLast?_concat] at h1
  obtain rfl : r = s := by simpa using h1
  exact h h2

def AtNext (B : Nat) (w1 : World) (nodes : List Int) (E : List Ev) (target : List Rn × Bool) (v : Value) (k : Nat) (out : List Rn) (w : World) : Prop :=
  w.ownsRow B 87 3 v out.length (out.flatMap decRn) ∧ Below B w1 w ∧ k ≤ E.length ∧ out.length ≤ k ∧ run nodes (E.drop k) k out = target ∧ ∀ h : k < E.length, ¬ goesOn nodes out E[k]
def AtMore (B : Nat) (w1 : World) (nodes : List Int) (E : List Ev) (target : List Rn × Bool) (v : Value) (k : Nat) (out : List Rn) (g : Nat) (r : Rn) (w : World) : Prop :=
  w.ownsRow B 87 3 v out.length (out.flatMap decRn) ∧ Below B w1 w ∧ k < E.length ∧ out.length ≤ k ∧ B ≤ g ∧ w.heap[g]? = some (.cells #[.int .i64 r.node, .int .i64 r.frm, .int .i64 r.many] 87 (0, 0)) ∧ (∀ b, v.ownBlock = some b → b ≠ g) ∧
    0 ≤ r.many ∧ r.many ≤ k ∧ run nodes (E.drop (k + 1)) (k + 1) (out ++ [{ r with many := r.many + 1 }]) = target
def NextJ (nodes : List Int) (n2 : Nat) (A C : Option Addr) (c1 c2 : Nat) (w : World) (E : List Ev) (target : List Rn × Bool) (a : Act) (w' : World) : Prop :=
  a.tmps.size = 70 ∧ a.defers = [] ∧ a.tmps.getD 0 undef = .slice A nodes.length c1 ∧ a.tmps.getD 1 undef = .slice C n2 c2 ∧
    ∃ (w1 : World) (A2 : Option Addr) (c3 k : Nat) (out : List Rn) (v : Value), a.tmps.getD 6 undef = v ∧ a.tmps.getD 7 undef = .slice A2 E.length c3 ∧ a.tmps.getD 8 undef = .int .i64 k ∧
      Below w.heap.size w w1 ∧ Sl w1 w1.heap.size A2 (E.flatMap decEv) ∧ AtNext w1.heap.size w1 nodes E target v k out w'
def MoreJ (nodes : List Int) (n2 : Nat) (A C : Option Addr) (c1 c2 : Nat) (w : World) (E : List Ev) (target : List Rn × Bool) (a : Act) (w' : World) : Prop :=
  a.tmps.size = 70 ∧ a.defers = [] ∧ a.tmps.getD 0 undef = .slice A nodes.length c1 ∧ a.tmps.getD 1 undef = .slice C n2 c2 ∧
    ∃ (w1 : World) (A2 : Option Addr) (c3 k : Nat) (out : List Rn) (v : Value) (g : Nat) (r : Rn), a.tmps.getD 6 undef = v ∧ a.tmps.getD 7 undef = .slice A2 E.length c3 ∧ a.tmps.getD 8 undef = .int .i64 k ∧ a.tmps.getD 9 undef = .pointer (some ⟨g, 0, none⟩) ∧
      Below w.heap.size w w1 ∧ Sl w1 w1.heap.size A2 (E.flatMap decEv) ∧ AtMore w1.heap.size w1 nodes E target v k out g r w'
theorem frame70 {a : Act} (h : a.tmps.size = 70) (hd : a.defers = []) : ∃ u : Nat → Value, a = { tmps := #[u 0, u 1, u 2, u 3, u 4, u 5, u 6, u 7, u 8, u 9, u 10, u 11, u 12, u 13, u 14, u 15, u 16, u 17, u 18, u 19, u 20, u 21, u 22, u 23, u 24, u 25, u 26, u 27, u 28, u 29, u 30, u 31, u 32, u 33, u 34, u 35, u 36, u 37, u 38, u 39, u 40, u 41, u 42, u 43, u 44, u 45, u 46, u 47, u 48, u 49, u 50, u 51, u 52, u 53, u 54, u 55, u 56, u 57, u 58, u 59, u 60, u 61, u 62, u 63, u 64, u 65, u 66, u 67, u 68, u 69], defers := [] } ∧ ∀ n, a.tmps.getD n undef = u n := by
  refine ⟨fun n => a.tmps.getD n undef, ?_, fun _ => rfl⟩
  have h1 := arr_lit a.tmps h
  cases a with
  | mk t d =>
    simp only at hd h1
    subst hd
    congr 1

theorem own_rn {w : World} {B : Nat} {v : Value} {out : List Rn} {r : Rn} (h : w.ownsRow B 87 3 v (out.length + 1) (out.flatMap decRn ++ [.int .i64 r.node, .int .i64 r.frm, .int .i64 r.many])) :
    w.ownsRow B 87 3 v (out ++ [r]).length ((out ++ [r]).flatMap decRn) := by
  simpa [decRn] using h

set_option maxHeartbeats 4000000 in
set_option maxRecDepth 100000 in
theorem of_any0 (nodes : List Int) (l : List Ev) (E : List Ev) (target : List Rn × Bool) (A C : Option Addr) (c1 c2 : Nat) (w : World) (hn1 : nodes.length ≤ c1) (hn2 : c1 ≤ maxLen) (hm : l.length ≤ 65536)
    (hE : Hid (entries l = E)) (hEl : E.length ≤ 65536) (htar : Hid (run nodes E 0 [] = target))
    (hs : Sl w w.heap.size A (nodes.flatMap decI)) (ht : Sl w w.heap.size C (l.flatMap decEv)) :
    Calls Tryz.prog 24 #[.slice A nodes.length c1, .slice C l.length c2] w fun e w' => ∃ v, e = .returned (.tuple #[v, .bool target.2]) ∧
      w'.ownsRow w.heap.size 87 3 v target.1.length (target.1.flatMap decRn) ∧ Below w.heap.size w w' := by
  go_enter Tryz.func24, Tryz.ntmps24
  go_wp2_with fail
  refine wp_scope_two 0 1 (NextJ nodes l.length A C c1 c2 w E target) (MoreJ nodes l.length A C c1 c2 w E target) (fun a' _ => 65536 - (intOf (a'.tmps.getD 8 undef)).toNat) rfl rfl ?_ ?_ ?_
  · rintro a' w' ⟨hsz, hdf, s0, s1, w1, A2, c3, k, out, v, g, r, s6, s7, s8, s9, hb1, hsE, hown, hb, hk, hol, hBg, hg, hne, hr0, hr1, hrun⟩
    obtain ⟨u, rfl, hu⟩ := frame70 hsz hdf
    rw [hu] at s0 s1 s6 s7 s8 s9
    simp only [s0, s1, s6, s7, s8, s9]
    clear hsz hdf s0 s1 s6 s7 s8 s9 hu
    have HR := Lib.hid hrun
    have HN := Lib.hid hne
    clear hrun hne
    have k0 : w'.cell? ⟨g, 0, none⟩ = some (.int .i64 r.node) := by simp [World.cell?, hg]
    have k1 : w'.cell? ⟨g, 1, none⟩ = some (.int .i64 r.frm) := by simp [World.cell?, hg]
    have k2 : w'.cell? ⟨g, 2, none⟩ = some (.int .i64 r.many) := by simp [World.cell?, hg]
    have f2 : w'.frozen? ⟨g, 2, none⟩ = false := by simp [World.frozen?, hg]
    have HG := Lib.hid hg
    clear hg
    have hmb : 0 ≤ r.many + 1 ∧ r.many + 1 ≤ 65537 := by omega
    by_cases hlt : k + 1 < E.length
    · obtain ⟨b, off, rfl, hbb, hcell⟩ := Sl_at (k := 4) (fun _ => rfl) (by omega) (hsE.below hb) (by omega)
      have h1 := hcell (k + 1) hlt 1 (by omega)
      have h3 := hcell (k + 1) hlt 3 (by omega)
      simp only [decEv, List.getElem?_cons_zero, List.getElem?_cons_succ, Nat.add_zero, ← Nat.add_assoc] at h1 h3
      have hsN : Sl ((w'.setCell ⟨g, 2, none⟩ (.int .i64 (r.many + 1)))) w.heap.size A (nodes.flatMap decI) :=
        ((hs.below hb1).below (hb.mono hb1.size)).keep fun p hp => World.cell?_setCell_other _ _ _ _ (fun e => by have := hb1.size; subst e; simp at hp; omega)
      have q1 : (w'.setCell ⟨g, 2, none⟩ (.int .i64 (r.many + 1))).cell? ⟨b, off + (k + 1) * 4 + 1, none⟩ = some (.int .i64 E[k + 1].thread) := (World.cell?_setCell_other _ _ _ _ (fun e => by injection e with e1; omega)).trans h1
      have q3 : (w'.setCell ⟨g, 2, none⟩ (.int .i64 (r.many + 1))).cell? ⟨b, off + (k + 1) * 4 + 3, none⟩ = some (.int .i64 E[k + 1].count) := (World.cell?_setCell_other _ _ _ _ (fun e => by injection e with e1; omega)).trans h3
      have n0 : (w'.setCell ⟨g, 2, none⟩ (.int .i64 (r.many + 1))).cell? ⟨g, 0, none⟩ = some (.int .i64 r.node) := (World.cell?_setCell_other _ _ _ _ (by simp)).trans k0
      have n1 : (w'.setCell ⟨g, 2, none⟩ (.int .i64 (r.many + 1))).cell? ⟨g, 1, none⟩ = some (.int .i64 r.frm) := (World.cell?_setCell_other _ _ _ _ (by simp)).trans k1
      have n2 : (w'.setCell ⟨g, 2, none⟩ (.int .i64 (r.many + 1))).cell? ⟨g, 2, none⟩ = some (.int .i64 (r.many + 1)) := World.cell?_setCell_same _ _ _ k2
      clear hcell h1 h3
      have i1 : (k : Int) + 1 < (E.length : Int) := by omega
      by_cases hc : E[k + 1].count = r.many + 1 + 1
      · have hcb := ibeq hc
        by_cases hnd : nodeOf nodes E[k + 1].thread = r.node
        · have hnb := ibeq hnd
          go_wp2_with fail
          go_quiet ((go_at_call 44; exact Calls.quiet_of_same (node_any nodes A c1 _ _ _ hn1 hn2 hsN)))
          go_wp2_with fail
          go_step3
          refine Or.inr ⟨rfl, ⟨rfl, rfl, rfl, rfl, w1, _, c3, k + 1, out, v, g, { r with many := r.many + 1 }, rfl, rfl, rfl, rfl, hb1, hsE, own_drewN (own_set hown (fun b hb => HN.out b hb) _) _,
            below_drewN (hb.setCell (p := ⟨g, 2, none⟩) hBg _) _, hlt, by omega, hBg, ?_, HN.out, by simp; omega, by simp; omega, ?_⟩, by simp [intOf]; omega⟩
          · exact blk_set HG.out 2 _
          · rw [← HR.out, run_go (r := { r with many := r.many + 1 }) hlt hnd.symm hc]
        · have hnb := ibeq_no hnd
          have hno : ¬ goesOn nodes (out ++ [{ r with many := r.many + 1 }]) E[k + 1] := not_goes_last (fun hh => hnd hh.1.symm)
          go_wp2_with fail
          go_quiet ((go_at_call 44; exact Calls.quiet_of_same (node_any nodes A c1 _ _ _ hn1 hn2 hsN)))
          go_wp2_with (at_builtin; refine wpList_append1 (.tmp 66) (.tmp 68) 55 87 _ 3 24 rfl rfl Tryz.underlying55 infoRn rfl (by decide) w1.heap.size _ _ _ _ _ _ _ _ (own_drewN (own_set hown (fun b hb => HN.out b hb) _) _) rfl rfl ?cg rfl ?d1 ?d2 ?d3 ?d4 ?ck; case' ck => intro v' w2 hown1 hb2 _)
          case cg => simp
          case d1 => simp [Value.oneCell']
          case d2 => simp only [maxLen]; omega
          case d3 => omega
          case d4 => have := hb.size; simp; omega
          have HO := own_rn (r := { r with many := r.many + 1 }) hown1
          clear hown1
          go_wp2_with fail
          go_step3
          exact Or.inl ⟨rfl, ⟨rfl, rfl, rfl, rfl, w1, _, c3, k + 1, out ++ [{ r with many := r.many + 1 }], v', rfl, rfl, rfl, hb1, hsE, HO, (below_drewN (hb.setCell (p := ⟨g, 2, none⟩) hBg _) _).trans hb2, (by omega), by simp; omega, HR.out, fun _ => hno⟩, by simp [intOf]; omega⟩
      · have hcb := ibeq_no hc
        have hno : ¬ goesOn nodes (out ++ [{ r with many := r.many + 1 }]) E[k + 1] := not_goes_last (fun hh => hc hh.2)
        go_wp2_with fail
        go_quiet (fail)
        go_wp2_with (at_builtin; refine wpList_append1 (.tmp 66) (.tmp 68) 55 87 _ 3 24 rfl rfl Tryz.underlying55 infoRn rfl (by decide) w1.heap.size _ _ _ _ _ _ _ _ (own_drewN (own_set hown (fun b hb => HN.out b hb) _) _) rfl rfl ?cgx rfl ?d1x ?d2x ?d3x ?d4x ?ckx; case' ckx => intro v' w2 hown1 hb2 _)
        case cgx => simp
        case d1x => simp [Value.oneCell']
        case d2x => simp only [maxLen]; omega
        case d3x => omega
        case d4x => have := hb.size; simp; omega
        have HO := own_rn (r := { r with many := r.many + 1 }) hown1
        clear hown1
        go_wp2_with fail
        go_step3
        exact Or.inl ⟨rfl, ⟨rfl, rfl, rfl, rfl, w1, _, c3, k + 1, out ++ [{ r with many := r.many + 1 }], v', rfl, rfl, rfl, hb1, hsE, HO, (below_drewN (hb.setCell (p := ⟨g, 2, none⟩) hBg _) _).trans hb2, (by omega), by simp; omega, HR.out, fun _ => hno⟩, by simp [intOf]; omega⟩
    · have hE' : k + 1 = E.length := by omega
      have i1 : ¬ (k : Int) + 1 < (E.length : Int) := by omega
      have i2 : decide ((k : Int) + 1 < (E.length : Int)) = false := by simpa using i1
      have n0 : (w'.setCell ⟨g, 2, none⟩ (.int .i64 (r.many + 1))).cell? ⟨g, 0, none⟩ = some (.int .i64 r.node) := (World.cell?_setCell_other _ _ _ _ (by simp)).trans k0
      have n1 : (w'.setCell ⟨g, 2, none⟩ (.int .i64 (r.many + 1))).cell? ⟨g, 1, none⟩ = some (.int .i64 r.frm) := (World.cell?_setCell_other _ _ _ _ (by simp)).trans k1
      have n2 : (w'.setCell ⟨g, 2, none⟩ (.int .i64 (r.many + 1))).cell? ⟨g, 2, none⟩ = some (.int .i64 (r.many + 1)) := World.cell?_setCell_same _ _ _ k2
      have HE := Lib.hid hE'
      clear hE'
      go_wp2_with fail
      go_quiet (fail)
      go_wp2_with (at_builtin; refine wpList_append1 (.tmp 66) (.tmp 68) 55 87 _ 3 24 rfl rfl Tryz.underlying55 infoRn rfl (by decide) w1.heap.size _ _ _ _ _ _ _ _ (own_drewN (own_set hown (fun b hb => HN.out b hb) _) _) rfl rfl ?cgy rfl ?d1y ?d2y ?d3y ?d4y ?cky; case' cky => intro v' w2 hown1 hb2 _)
      case cgy => simp
      case d1y => simp [Value.oneCell']
      case d2y => simp only [maxLen]; omega
      case d3y => omega
      case d4y => have := hb.size; simp; omega
      have HO := own_rn (r := { r with many := r.many + 1 }) hown1
      clear hown1
      go_wp2_with fail
      go_step3
      exact Or.inl ⟨rfl, ⟨rfl, rfl, rfl, rfl, w1, _, c3, k + 1, out ++ [{ r with many := r.many + 1 }], v', rfl, rfl, rfl, hb1, hsE, HO, (below_drewN (hb.setCell (p := ⟨g, 2, none⟩) hBg _) _).trans hb2, (by omega), by simp; omega, HR.out, fun h => absurd h (by have := HE.out; omega)⟩, by simp [intOf]; omega⟩
  · rintro a' w' ⟨hsz, hdf, s0, s1, w1, A2, c3, k, out, v, s6, s7, s8, hb1, hsE, hown, hb, hk, hol, hrun, hno⟩ hmore
    obtain ⟨u, rfl, hu⟩ := frame70 hsz hdf
    rw [hu] at s0 s1 s6 s7 s8
    simp only [s0, s1, s6, s7, s8] at hmore ⊢
    clear hsz hdf s0 s1 s6 s7 s8 hu
    have HM := Lib.hid hmore
    clear hmore
    have HR := Lib.hid hrun
    clear hrun
    by_cases hlt : k < E.length
    · have HN := Lib.hid (hno hlt)
      clear hno
      obtain ⟨b, off, rfl, hbb, hcell⟩ := Sl_at (k := 4) (fun _ => rfl) (by omega) (hsE.below hb) (by omega)
      have h1 := hcell k hlt 1 (by omega)
      have h3 := hcell k hlt 3 (by omega)
      simp only [decEv, List.getElem?_cons_zero, List.getElem?_cons_succ, Nat.add_zero, ← Nat.add_assoc] at h1 h3
      have hsN : Sl w' w.heap.size A (nodes.flatMap decI) := (hs.below hb1).below (hb.mono hb1.size)
      have i0 : ((k : Int) == (E.length : Int)) = false := nbeq_no (by omega)
      clear hcell
      by_cases hc : E[k].count = 1
      · have hcb := ibne_no hc
        have HC := Lib.hid hc
        clear hc
        go_wp2_with (go_at_call 44; refine (node_any nodes A c1 _ _ _ hn1 hn2 hsN).mono ?_; rintro e wx ⟨rfl, hwx⟩; obtain rfl := hwx.symm)
        go_step3
        rename_i hK
        refine hK _ _ ?_
        refine HM.out _ _ ?_ (by simp [intOf])
        refine ⟨rfl, rfl, rfl, rfl, w1, _, c3, k, out, v, w'.heap.size, ⟨nodeOf nodes E[k].thread, k, 0⟩, rfl, rfl, rfl, rfl, hb1, hsE, hown.alloc _, hb.alloc hb.size _, hlt, hol, hb.size, heap_alloc_new _ _, ?_, Int.le_refl _, by simp, ?_⟩
        · intro b hb
          have := (hown.lt b hb).2
          omega
        · rw [← HR.out, run_new hlt HN.out HC.out]
          rfl
      · have hcb := ibne hc
        have HC := Lib.hid hc
        clear hc
        go_wp2_with fail
        simp only [Exit.jump2]
        go_ret2
        refine ⟨v, ?_, ?_, hb1.trans (hb.mono hb1.size)⟩
        · rw [← HR.out, run_no hlt HN.out HC.out]; rfl
        · rw [← HR.out, run_no hlt HN.out HC.out]; exact own_base hown hb1.size
    · have i0 : ((k : Int) == (E.length : Int)) = true := nbeq (by omega)
      go_wp2_with fail
      simp only [Exit.jump2]
      go_ret2
      refine ⟨v, ?_, ?_, hb1.trans (hb.mono hb1.size)⟩
      · rw [← HR.out, run_end (by omega)]; rfl
      · rw [← HR.out, run_end (by omega)]; exact own_base hown hb1.size
  · intro hnext
    have HX := Lib.hid hnext
    clear hnext
    go_wp2_with (go_at_call 43; refine (entries_any l C c2 _ hm ht).mono ?_; rintro e w1 ⟨v2, rfl, hown, hb⟩)
    go_step3
    rename_i hK
    rw [hE.out] at hown
    obtain ⟨A2, c3, rfl, _, _, hsl⟩ := own_slice hown
    refine hK _ _ ?_
    refine HX.out _ _ ?_
    exact ⟨rfl, rfl, rfl, rfl, w1, A2, c3, 0, [], .slice none 0 0, rfl, rfl, rfl, hb, hsl, World.ownsRow_nil _ _ _ _, Below.refl _ _, Nat.zero_le _, Nat.le_refl _, htar.out, fun _ => not_goes_nil⟩

theorem of_any (nodes : List Int) (l : List Ev) (A C : Option Addr) (c1 c2 : Nat) (w : World) (hn1 : nodes.length ≤ c1) (hn2 : c1 ≤ maxLen) (hm : l.length ≤ 65536)
    (hs : Sl w w.heap.size A (nodes.flatMap decI)) (ht : Sl w w.heap.size C (l.flatMap decEv)) :
    Calls Tryz.prog 24 #[.slice A nodes.length c1, .slice C l.length c2] w fun e w' => ∃ v, e = .returned (.tuple #[v, .bool (ofAll nodes l).2]) ∧
      w'.ownsRow w.heap.size 87 3 v (ofAll nodes l).1.length ((ofAll nodes l).1.flatMap decRn) ∧ Below w.heap.size w w' :=
  of_any0 nodes l _ _ A C c1 c2 w hn1 hn2 hm rfl (Nat.le_trans (List.length_filter_le _ _) hm) rfl hs ht
end Go.Proofs.YtfnmggmgdmokcaaGreat.Ten

/- A global lock of nodes, a local one of the threads of each: its entries, as tenures: the plain law. -/
namespace Go.Proofs.YtfnmggmgdmokcaaGreat.Co
open Go.RowKit Go.Proofs.YtfnmggmgdmokcaaGreat.Ara Go.Proofs.YtfnmggmgdmokcaaGreat.Lok Go.Proofs.YtfnmggmgdmokcaaGreat.Fl Go.Proofs.YtfnmggmgdmokcaaGreat.Ten

theorem run_snoc {nodes : List Int} {e : Ev} {out' : List Rn} : ∀ {E : List Ev} {n : Nat} {o out : List Rn}, Ten.run nodes E n o = (out, true) → Ten.step nodes out (n + E.length) e = some out' → Ten.run nodes (E ++ [e]) n o = (out', true)
  | [], n, o, out, h, hs => by
    simp only [Ten.run, Prod.mk.injEq, and_true] at h
    subst h
    simp only [List.nil_append, Ten.run]
    rw [show n + ([] : List Ev).length = n from rfl] at hs
    rw [hs]
  | a :: E, n, o, out, h, hs => by
    simp only [List.cons_append, Ten.run] at h ⊢
    cases ho : Ten.step nodes o n a with
    | none =>
      rw [ho] at h
      simp at h
    | some o2 =>
      rw [ho] at h
      simp only at h ⊢
      refine run_snoc h ?_
      rw [show n + 1 + E.length = n + (a :: E).length by simp; omega]
      exact hs
theorem step_new {nodes : List Int} {out : List Rn} {n : Nat} {e : Ev} (h1 : e.count = 1) (h2 : ∀ r ∈ out, 1 ≤ r.many) : Ten.step nodes out n e = some (out ++ [⟨nodeOf nodes e.thread, n, 1⟩]) := by
  unfold Ten.step
  cases h : out.getLast? with
  | none => simp [h1]
  | some r =>
    have hr := h2 r (List.mem_of_getLast? h)
    simp only
    rw [if_neg (by omega), if_pos h1]
theorem step_go {nodes : List Int} {out : List Rn} {n : Nat} {e : Ev} {r : Rn} (h : out.getLast? = some r) (h1 : r.node = nodeOf nodes e.thread) (h2 : e.count = r.many + 1) : Ten.step nodes out n e = some (out.dropLast ++ [{ r with many := r.many + 1 }]) := by
  unfold Ten.step
  rw [h]
  simp only
  rw [if_pos ⟨h1, h2⟩]
theorem longest_le {M : Int} (h0 : 0 ≤ M) {l : List Rn} (h : ∀ r ∈ l, r.many ≤ M) : Ten.longest l ≤ M := by
  unfold Ten.longest
  have : ∀ (l : List Rn) (m : Int), m ≤ M → (∀ r ∈ l, r.many ≤ M) → l.foldl (fun m r => mx m r.many) m ≤ M := by
    intro l
    induction l with
    | nil => exact fun m hm _ => hm
    | cons a l ih =>
      intro m hm hl
      simp only [List.foldl_cons]
      refine ih _ ?_ (fun r hr => hl r (List.mem_cons_of_mem _ hr))
      unfold mx
      have := hl a List.mem_cons_self
      split <;> omega
  exact this l 0 h0 h
structure Tn (P : Pm) (t : List Int) (x : CS) (m : Nat) (E : List Ev) : Prop where
  ci : CI P x m
  ev : ∀ e ∈ E, e.kind = 2
  tn : ∃ last out, TI P x last ∧ Ten.run t E 0 [] = (out, true) ∧ (∀ r ∈ out, 1 ≤ r.many ∧ r.many ≤ P.B + 1) ∧ ∀ n κ, last = some (n, κ) → ∃ r, out.getLast? = some r ∧ r.many = κ ∧ ∀ k, k < P.T → P.nd k = n → r.node = t.getD k 0
def evC (P : Pm) (x x' : CS) (i : Int) : List Ev := if entB x x' i then [⟨2, i, false, (spOf x'.S i).a⟩] else []
section
variable {P : Pm} {t : List Int} {x : CS} {m : Nat} {E : List Ev} (D : Dj P) (h : Tn P t x m E) (hT : P.T = t.length) (hnd : ∀ a b, a < P.T → b < P.T → P.nd a = P.nd b → t.getD a 0 = t.getD b 0)
include D h hT hnd
theorem Tn.act (kd i : Int) : Tn P t (doC P x kd i) (m + 1) (E ++ evC P x (doC P x kd i) i) := by
  obtain ⟨hci, hev, last, out, hti, hrun, hmany, hlast⟩ := h
  have hti' := hti.act D hci kd i
  refine ⟨hci.act D kd i, ?_, ?_⟩
  · intro e he
    rcases List.mem_append.1 he with he | he
    · exact hev e he
    · unfold evC at he
      split at he
      · simp only [List.mem_singleton] at he
        subst he
        rfl
      · simp at he
  cases hb : entB x (doC P x kd i) i with
  | false =>
    have e1 : evC P x (doC P x kd i) i = [] := by unfold evC; rw [hb]; rfl
    have e2 : lastC P x (doC P x kd i) i last = last := by unfold lastC; rw [hb]; rfl
    rw [e2] at hti'
    rw [e1, List.append_nil]
    exact ⟨last, out, hti', hrun, hmany, hlast⟩
  | true =>
    obtain ⟨k, rfl, hk, _, _, _, _, ha, h1, h2, h3⟩ := hti.ent D hci kd i hb
    have e1 : evC P x (doC P x kd (k : Int)) (k : Int) = [⟨2, (k : Int), false, (spOf (doC P x kd (k : Int)).S (k : Int)).a⟩] := by unfold evC; rw [hb]; rfl
    have e2 : lastC P x (doC P x kd (k : Int)) (k : Int) last = some (P.nd k, (spOf (doC P x kd (k : Int)).S (k : Int)).a) := by unfold lastC; rw [hb]; rfl
    rw [e2] at hti'
    rw [e1]
    have hnode : nodeOf t (k : Int) = t.getD k 0 := by
      unfold nodeOf
      rw [if_pos ⟨by omega, by omega⟩, Int.toNat_natCast]
    generalize (spOf (doC P x kd (k : Int)).S (k : Int)).a = av at *
    rcases h3 with ⟨_, h3⟩ | ⟨h3, h4, κ, h5, h6⟩
    · have hav : av = 1 := by omega
      subst hav
      refine ⟨_, _, hti', run_snoc hrun (step_new rfl fun r hr => (hmany r hr).1), ?_, ?_⟩
      · intro r hr
        rcases List.mem_append.1 hr with hr | hr
        · exact hmany r hr
        · simp only [List.mem_singleton] at hr
          subst hr
          exact ⟨by show (1 : Int) ≤ 1; omega, by show (1 : Int) ≤ _; omega⟩
      · intro n κ hl
        simp only [Option.some.injEq, Prod.mk.injEq] at hl
        obtain ⟨rfl, rfl⟩ := hl
        refine ⟨_, List.getLast?_concat, rfl, fun j hj e => ?_⟩
        show nodeOf t (k : Int) = _
        rw [hnode]
        exact (hnd j k hj hk e).symm
    · obtain ⟨r, g1, g2, g3⟩ := hlast _ _ h5
      refine ⟨_, _, hti', run_snoc hrun (step_go g1 ?_ ?_), ?_, ?_⟩
      · show r.node = nodeOf t (k : Int)
        rw [hnode]
        exact g3 k hk rfl
      · show av = r.many + 1
        omega
      · intro s hs
        rcases List.mem_append.1 hs with hs | hs
        · exact hmany s (List.dropLast_subset _ hs)
        · simp only [List.mem_singleton] at hs
          subst hs
          exact ⟨by show 1 ≤ r.many + 1; omega, by show r.many + 1 ≤ _; omega⟩
      · intro n κ' hl
        simp only [Option.some.injEq, Prod.mk.injEq] at hl
        obtain ⟨rfl, rfl⟩ := hl
        exact ⟨_, List.getLast?_concat, by show r.many + 1 = av; omega, fun j hj e => g3 j hj e⟩
end
theorem Tn.of {P : Pm} {t : List Int} {x : CS} {m : Nat} {E : List Ev} (h : Tn P t x m E) (hB : 0 ≤ P.B) : ∃ out, Ten.ofAll t E = (out, true) ∧ Ten.longest out ≤ P.B + 1 := by
  obtain ⟨_, hev, last, out, _, hrun, hmany, _⟩ := h
  refine ⟨out, ?_, longest_le (by omega) fun r hr => (hmany r hr).2⟩
  unfold Ten.ofAll Ten.entries
  rw [List.filter_eq_self.2 fun e he => by unfold Ten.isEnter; rw [hev e he]; rfl]
  exact hrun
theorem Nw.tn {c : Nw} (O : c.Ok) {σ0 : Ar} (hr : c.tN σ0.t c.NN ≤ σ0.ws.length) (hz : ∀ k, σ0.t ≤ k → σ0.ws.getD k 0 = 0) (hw : σ0.ws.length ≤ 4096) {m : Nat} (hm : σ0.ops + c.NN + 1 ≤ m) (t : List Int) : Tn (c.pm σ0) t (c.st σ0) m [] :=
  ⟨Nw.ci O hr hz hw hm, fun e he => by simp at he, none, [], (fun n hn h0 => by rw [Nw.cw_zero O hr hz hn] at h0; omega), rfl, fun r hr => by simp at hr, fun n κ h => by cases h⟩
open Go.Proofs.YtfnmggmgdmokcaaGreat.Tp in
theorem nd_place {p t : List Int} (hck : chk p t = 0) {a b : Nat} (ha : a < t.length) (hb : b < t.length) (e : ndI p t a = ndI p t b) : t.getD a 0 = t.getD b 0 := by
  obtain ⟨_, h1, _⟩ := nd_at (chk_mem hck ha)
  obtain ⟨_, h2, _⟩ := nd_at (chk_mem hck hb)
  rw [← h1, ← h2, e]
end Go.Proofs.YtfnmggmgdmokcaaGreat.Co

