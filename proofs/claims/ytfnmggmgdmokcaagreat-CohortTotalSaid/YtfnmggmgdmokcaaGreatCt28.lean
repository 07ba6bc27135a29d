/- Merged texts: Cm17, TpB, CmL, Cm19, Sn1, Co11, Co12, QuE, Co19, CmA. -/
import Derived.Test.YtfnmggmgdmokcaaGreatCt27
import Derived.Test.YtfnmggmgdmokcaaGreatOpen
set_option linter.unusedVariables false
/- The law's awake. -/
namespace Go.Proofs.YtfnmggmgdmokcaaGreat.Cm
open Go.RowKit Go.Proofs.YtfnmggmgdmokcaaGreat.Tp Go.Proofs.YtfnmggmgdmokcaaGreat.Ara Go.Proofs.YtfnmggmgdmokcaaGreat.Lok Go.Proofs.YtfnmggmgdmokcaaGreat.Fl Go.Proofs.YtfnmggmgdmokcaaGreat.Co

def nwA : Nw := nwOf twoP twoT 2 4 1 1
def pmA : Pm := nwA.pm (Ar.fresh 99)
def xA0 : CS := nwA.st (Ar.fresh 99)
def xA1 : CS := askC pmA xA0 0
def xA2 : CS := (stepsC pmA 20 xA1 0).2
def xA3 : CS := askC pmA xA2 1
def xA4 : CS := (stepsC pmA 20 xA3 1).2
def xA5 : CS := askC pmA xA4 2
def xA6 : CS := (stepsC pmA 20 xA5 2).2
def xA7 : CS := leaveC xA6 0
def xA8 : CS := (stepsC pmA 20 xA7 0).2
def xA9 : CS := (stepsC pmA 9 xA8 2).2
def xA10 : CS := (stepsC pmA 9 xA9 1).2
def xA11 : CS := leaveC xA10 1
def xA12 : CS := (stepsC pmA 20 xA11 1).2
def xA13 : CS := (stepsC pmA 9 xA12 2).2
theorem a0 : turnB xA0.S 0 0 = true := by kernel_rfl
theorem a1 : (stepsC pmA 20 xA1 0).1 = true := by kernel_rfl
theorem a2 : cntV (spOf xA2.S 0) = 1 := by kernel_rfl
theorem a3 : turnB xA2.S 1 0 = true := by kernel_rfl
theorem a4 : (stepsC pmA 20 xA3 1).1 = false := by kernel_rfl
theorem a5 : turnB xA4.S 2 0 = true := by kernel_rfl
theorem a6 : (stepsC pmA 20 xA5 2).1 = false := by kernel_rfl
theorem a7 : pasB pmA xA6 1 = true := by kernel_rfl
theorem a8 : gloV pmA xA6 0 = 3 := by kernel_rfl
theorem a9 : gloV pmA xA6 1 = 2 := by kernel_rfl
theorem a10 : turnB xA6.S 0 10 = true := by kernel_rfl
theorem a11 : (stepsC pmA 20 xA7 0).1 = true := by kernel_rfl
theorem a12 : (stepsC pmA 9 xA8 2).1 = false := by kernel_rfl
theorem a13 : (stepsC pmA 9 xA9 1).1 = true := by kernel_rfl
theorem a14 : cntV (spOf xA10.S 1) = 2 := by kernel_rfl
theorem a15 : turnB xA10.S 1 10 = true := by kernel_rfl
theorem a16 : (stepsC pmA 20 xA11 1).1 = true := by kernel_rfl
theorem a17 : (stepsC pmA 9 xA12 2).1 = true := by kernel_rfl
theorem a18 : cntV (spOf xA13.S 2) = 1 := by kernel_rfl
theorem hckA : chk twoP twoT = 0 := by decide
theorem okA : nwA.Ok := nw_ok hckA (by decide) (by decide) (by decide) (by decide)
theorem roomA : nwA.tN (Ar.fresh 99).t nwA.NN ≤ (Ar.fresh 99).ws.length := by decide
theorem brA : Bud.right pmA.B = true := by decide
theorem djA : Dj pmA := Nw.dj okA roomA
theorem c0A : CI pmA xA0 3 := Nw.ci okA roomA (fun k _ => zeros_at 99 k) (by decide) (by decide)
theorem c1A : CI pmA xA1 4 := c0A.ask djA 0
theorem c2A : CI pmA xA2 24 := stepsC_ci djA 0 20 c1A
theorem c3A : CI pmA xA3 25 := c2A.ask djA 1
theorem c4A : CI pmA xA4 45 := stepsC_ci djA 1 20 c3A
theorem c5A : CI pmA xA5 46 := c4A.ask djA 2
theorem c6A : CI pmA xA6 66 := stepsC_ci djA 2 20 c5A
theorem c7A : CI pmA xA7 67 := c6A.leave djA 0
theorem c8A : CI pmA xA8 87 := stepsC_ci djA 0 20 c7A
theorem c9A : CI pmA xA9 96 := stepsC_ci djA 2 9 c8A
theorem c10A : CI pmA xA10 105 := stepsC_ci djA 1 9 c9A
theorem c11A : CI pmA xA11 106 := c10A.leave djA 1
theorem c12A : CI pmA xA12 126 := stepsC_ci djA 1 20 c11A
section
variable {W : World} {c : Cd}
abbrev KA (W0 W : World) (c : Cd) (x : CS) : Prop := CoAt W c pmA x ∧ Below W0.heap.size W0 W
theorem kA {W0 W W' : World} {x' : CS} (hc : ∀ b, b < W0.heap.size → c.col b = 0) (hb : Below W0.heap.size W0 W) (h : CoAt W' c pmA x') (k : Kp c.col W W') : KA W0 W' c x' := ⟨h, hb.trans (k.below hb.size hc)⟩
theorem kB {W0 W W' : World} {x : CS} (h : KA W0 W c x) (b : Below W.heap.size W W') : KA W0 W' c x := ⟨h.1.same b, h.2.trans (b.mono h.2.size)⟩
end
set_option maxRecDepth 100000 in
set_option maxHeartbeats 4000000 in
theorem awake_any (w : World) : Calls Tryz.prog 10 #[] w fun e w' => e = .returned (.bool true) ∧ Below w.heap.size w w' := by
  go_enter Tryz.func10, Tryz.ntmps10
  go_wp2_with fail
  refine (new_in 99 _).mono ?_
  rintro e w1 ⟨rfl, ha1, hz1, b1⟩
  have HA1 := Lib.hid ha1
  have HB1 := Lib.hid b1
  clear ha1 b1
  go_wp2_with fail
  refine (two_any _).mono ?_
  rintro e w2 ⟨A, B, rfl, s1, s2, b2⟩
  have hz2 := b2.size
  have HNW := Lib.hid (new_co twoP twoT A B 3 4 w2 hckA s1 s2 (w.heap.size + 1) w.heap.size (Ar.fresh 99) (HA1.out.step b2) (by omega) (by omega) 2 4 1 1 okA brA roomA (by decide) (by decide))
  have HB2 := Lib.hid (HB1.out.trans (b2.mono HB1.out.size))
  clear s1 s2 b2
  go_wp2_with fail
  refine HNW.out.mono ?_
  rintro e w3 ⟨cd, rfl, hK, ⟨g1, g2, g3⟩, hcol, hm3⟩
  have HCOL := Lib.hid (show ∀ b, b < w.heap.size → cd.col b = 0 from fun b hb => hcol b (by omega) (by omega) (by omega))
  have HGA := Lib.hid g1
  have HK := Lib.hid (show KA w w3 cd xA0 from ⟨hK, HB2.out.trans (hm3.below (by omega) (by simp))⟩)
  clear hK g1 g2 g3 hcol hm3 HNW HA1
  go_wp2_with fail
  refine (ask_co HK.out.1 djA c0A (by decide) 0).mono ?_
  rintro e w9 ⟨rfl, hk9, hp9⟩
  have HK9 := Lib.hid (kA HCOL.out HK.out.2 hk9 hp9)
  clear hk9 hp9 HK
  have HK := Lib.hid (show KA w w9 cd xA1 from HK9.out)
  clear HK9
  rw [a0]
  go_wp2_with fail
  refine (steps_co HK.out.1 djA c1A 20 (by decide) brA 0).mono ?_
  rintro e w9 ⟨rfl, hk9, hp9⟩
  have HK9 := Lib.hid (kA HCOL.out HK.out.2 hk9 hp9)
  clear hk9 hp9 HK
  have HK := Lib.hid (show KA w w9 cd xA2 from HK9.out)
  clear HK9
  rw [a1]
  go_wp2_with fail
  refine (count_co HK.out.1 0).mono ?_
  rintro e w9 ⟨rfl, hb9⟩
  have HK9 := Lib.hid (kB HK.out hb9)
  clear hb9 HK
  have HK := Lib.hid HK9.out
  clear HK9
  rw [a2]
  go_wp2_with fail
  refine (ask_co HK.out.1 djA c2A (by decide) 1).mono ?_
  rintro e w9 ⟨rfl, hk9, hp9⟩
  have HK9 := Lib.hid (kA HCOL.out HK.out.2 hk9 hp9)
  clear hk9 hp9 HK
  have HK := Lib.hid (show KA w w9 cd xA3 from HK9.out)
  clear HK9
  rw [a3]
  go_wp2_with fail
  refine (steps_co HK.out.1 djA c3A 20 (by decide) brA 1).mono ?_
  rintro e w9 ⟨rfl, hk9, hp9⟩
  have HK9 := Lib.hid (kA HCOL.out HK.out.2 hk9 hp9)
  clear hk9 hp9 HK
  have HK := Lib.hid (show KA w w9 cd xA4 from HK9.out)
  clear HK9
  rw [a4]
  go_wp2_with fail
  refine (ask_co HK.out.1 djA c4A (by decide) 2).mono ?_
  rintro e w9 ⟨rfl, hk9, hp9⟩
  have HK9 := Lib.hid (kA HCOL.out HK.out.2 hk9 hp9)
  clear hk9 hp9 HK
  have HK := Lib.hid (show KA w w9 cd xA5 from HK9.out)
  clear HK9
  rw [a5]
  go_wp2_with fail
  refine (steps_co HK.out.1 djA c5A 20 (by decide) brA 2).mono ?_
  rintro e w9 ⟨rfl, hk9, hp9⟩
  have HK9 := Lib.hid (kA HCOL.out HK.out.2 hk9 hp9)
  clear hk9 hp9 HK
  have HK := Lib.hid (show KA w w9 cd xA6 from HK9.out)
  clear HK9
  rw [a6]
  go_wp2_with fail
  refine (passed_co HK.out.1 djA 1).mono ?_
  rintro e w9 ⟨rfl, hb9⟩
  have HK9 := Lib.hid (kB HK.out hb9)
  clear hb9 HK
  have HK := Lib.hid HK9.out
  clear HK9
  rw [a7]
  go_wp2_with fail
  refine (global_co HK.out.1 0).mono ?_
  rintro e w9 ⟨rfl, hb9⟩
  have HK9 := Lib.hid (kB HK.out hb9)
  clear hb9 HK
  have HK := Lib.hid HK9.out
  clear HK9
  rw [a8]
  go_wp2_with fail
  refine (global_co HK.out.1 1).mono ?_
  rintro e w9 ⟨rfl, hb9⟩
  have HK9 := Lib.hid (kB HK.out hb9)
  clear hb9 HK
  have HK := Lib.hid HK9.out
  clear HK9
  rw [a9]
  go_wp2_with fail
  refine (leave_co HK.out.1 0).mono ?_
  rintro e w9 ⟨rfl, hk9, hp9⟩
  have HK9 := Lib.hid (kA HCOL.out HK.out.2 hk9 hp9)
  clear hk9 hp9 HK
  have HK := Lib.hid (show KA w w9 cd xA7 from HK9.out)
  clear HK9
  rw [a10]
  go_wp2_with fail
  refine (steps_co HK.out.1 djA c7A 20 (by decide) brA 0).mono ?_
  rintro e w9 ⟨rfl, hk9, hp9⟩
  have HK9 := Lib.hid (kA HCOL.out HK.out.2 hk9 hp9)
  clear hk9 hp9 HK
  have HK := Lib.hid (show KA w w9 cd xA8 from HK9.out)
  clear HK9
  rw [a11]
  go_wp2_with fail
  refine (steps_co HK.out.1 djA c8A 9 (by decide) brA 2).mono ?_
  rintro e w9 ⟨rfl, hk9, hp9⟩
  have HK9 := Lib.hid (kA HCOL.out HK.out.2 hk9 hp9)
  clear hk9 hp9 HK
  have HK := Lib.hid (show KA w w9 cd xA9 from HK9.out)
  clear HK9
  rw [a12]
  go_wp2_with fail
  refine (steps_co HK.out.1 djA c9A 9 (by decide) brA 1).mono ?_
  rintro e w9 ⟨rfl, hk9, hp9⟩
  have HK9 := Lib.hid (kA HCOL.out HK.out.2 hk9 hp9)
  clear hk9 hp9 HK
  have HK := Lib.hid (show KA w w9 cd xA10 from HK9.out)
  clear HK9
  rw [a13]
  go_wp2_with fail
  refine (count_co HK.out.1 1).mono ?_
  rintro e w9 ⟨rfl, hb9⟩
  have HK9 := Lib.hid (kB HK.out hb9)
  clear hb9 HK
  have HK := Lib.hid HK9.out
  clear HK9
  rw [a14]
  go_wp2_with fail
  refine (leave_co HK.out.1 1).mono ?_
  rintro e w9 ⟨rfl, hk9, hp9⟩
  have HK9 := Lib.hid (kA HCOL.out HK.out.2 hk9 hp9)
  clear hk9 hp9 HK
  have HK := Lib.hid (show KA w w9 cd xA11 from HK9.out)
  clear HK9
  rw [a15]
  go_wp2_with fail
  refine (steps_co HK.out.1 djA c11A 20 (by decide) brA 1).mono ?_
  rintro e w9 ⟨rfl, hk9, hp9⟩
  have HK9 := Lib.hid (kA HCOL.out HK.out.2 hk9 hp9)
  clear hk9 hp9 HK
  have HK := Lib.hid (show KA w w9 cd xA12 from HK9.out)
  clear HK9
  rw [a16]
  go_wp2_with fail
  refine (steps_co HK.out.1 djA c12A 9 (by decide) brA 2).mono ?_
  rintro e w9 ⟨rfl, hk9, hp9⟩
  have HK9 := Lib.hid (kA HCOL.out HK.out.2 hk9 hp9)
  clear hk9 hp9 HK
  have HK := Lib.hid (show KA w w9 cd xA13 from HK9.out)
  clear HK9
  rw [a17]
  go_wp2_with fail
  refine (count_co HK.out.1 2).mono ?_
  rintro e w9 ⟨rfl, hb9⟩
  have HK9 := Lib.hid (kB HK.out hb9)
  clear hb9 HK
  have HK := Lib.hid HK9.out
  clear HK9
  rw [a18]
  go_wp2_with fail
  refine (two_any _).mono ?_
  rintro e w10 ⟨A2, B2, rfl, s1, s2, b2⟩
  have HK9 := Lib.hid (kB HK.out b2)
  have HBD := Lib.hid (new_bad twoP twoT A2 B2 3 4 w10 hckA s1 s2 (some ⟨w.heap.size + 1, 0, none⟩) 2 2 1 (-1) (by decide))
  clear s1 s2 b2 HK
  go_wp2_with fail
  refine HBD.out.mono ?_
  rintro e w11 ⟨rfl, b3⟩
  have HK := Lib.hid (kB HK9.out b3)
  clear b3 HK9 HBD
  go_wp2_with fail
  refine (threads_co HK.out.1).mono ?_
  rintro e wx ⟨rfl, hwx⟩
  obtain rfl := hwx.symm
  go_wp2_with fail
  go_ret
  exact ⟨rfl, HK.out.2⟩
end Go.Proofs.YtfnmggmgdmokcaaGreat.Cm

/- A topology as an argument: how it is read. -/
namespace Go.Proofs.YtfnmggmgdmokcaaGreat.Tp
open Go.RowKit Go.ChangeShapes Go.WideShapes Go.Deep Go.Proofs.YtfnmggmgdmokcaaGreat.Li Go.Proofs.YtfnmggmgdmokcaaGreat.De Go.Proofs.YtfnmggmgdmokcaaGreat.Ara Go.Proofs.YtfnmggmgdmokcaaGreat.Ara
theorem arg_topo {H : Type} {enc : TypeId × Value → H} {w : World} {base : Nat} {spare : Nat → Bool} {held : Bool} {v : Value} {D : DataW H} {pl : List MemPlace} (hv : ∃ cs, v = .agg cs) (h : DataW.Trod enc Tryz.prog w base spare held 24 v D pl) :
    ∃ (A B : Option Addr) (c d : Nat) (p t : List Int), v = .agg #[.slice A p.length c, .slice B t.length d] ∧ p.length ≤ c ∧ c ≤ maxLen ∧ t.length ≤ d ∧ d ≤ maxLen ∧ Sl w w.heap.size A (p.flatMap decI) ∧ Sl w w.heap.size B (t.flatMap decI) := by
  obtain ⟨cs, rfl⟩ := hv
  obtain ⟨fuel, hf⟩ := h
  obtain ⟨hl, hfl⟩ := fields_of Tryz.underlying24 (by kernel_rfl) (by kernel_rfl) hf
  have hl2 : cs.toList.length = 2 := hl
  obtain ⟨x, y, e⟩ := list2 hl2
  have e' : (Value.agg cs).cells.toList = [x, y] := e
  rw [e'] at hfl
  obtain ⟨_, _, g0⟩ := hfl 0 _ x rfl rfl
  obtain ⟨_, _, g1⟩ := hfl 1 _ y rfl rfl
  obtain ⟨A, n, c, p, h1, rfl, h2, h3, _, h4⟩ := slice_of (k := 1) Tryz.underlying22 (by kernel_rfl) (fun _ => rfl) (reads_i64 Tryz.underlying3) g0
  obtain ⟨B, m, d, t, k1, rfl, k2, k3, _, k4⟩ := slice_of (k := 1) Tryz.underlying22 (by kernel_rfl) (fun _ => rfl) (reads_i64 Tryz.underlying3) g1
  injection h1 with h1
  injection k1 with k1
  subst h1 k1
  refine ⟨A, B, c, d, p, t, ?_, h2, h3, k2, k3, h4, k4⟩
  congr 1
  apply Array.ext'
  rw [e]
end Go.Proofs.YtfnmggmgdmokcaaGreat.Tp

/- What the laws' loops have of memory. -/
namespace Go.Proofs.YtfnmggmgdmokcaaGreat.Cm
open Go.RowKit Go.Proofs.YtfnmggmgdmokcaaGreat.Tp Go.Proofs.YtfnmggmgdmokcaaGreat.Ara Go.Proofs.YtfnmggmgdmokcaaGreat.Lok Go.Proofs.YtfnmggmgdmokcaaGreat.Fl Go.Proofs.YtfnmggmgdmokcaaGreat.Co

theorem reads_ac {H : Type} {enc : TypeId × Value → H} : Reads enc Tryz.prog 37 decAc (fun e => isI64 e.kind ∧ isI64 e.i) :=
  (reads_s2 (d0 := Value.int .i64) (d1 := Value.int .i64) Tryz.underlying37 (by kernel_rfl) (by kernel_rfl) (reads_i64 Tryz.underlying3) (reads_i64 Tryz.underlying3)).map
    (fun p => ⟨p.1, p.2⟩) (fun _ => rfl) (fun _ h => h)

theorem Bx_kp {w W W' : World} {x y : Value} {col : Nat → Nat} (h : Bx w W x y) (k : Kp col W W') (hc : ∀ q, q < w.heap.size + 1 → col q = 0) : Bx w W' x y := by
  obtain ⟨h1, h2, h3, h4⟩ := h
  exact ⟨h1.trans (k.below h1.size (fun b hb => hc b (by omega))), Nat.lt_of_lt_of_le h2 k.size, (k.cell (p := ⟨w.heap.size, 0, none⟩) h2 (hc _ (Nat.lt_succ_self _))).trans h3, (k.cell (p := ⟨w.heap.size, 1, none⟩) h2 (hc _ (Nat.lt_succ_self _))).trans h4⟩
structure LpW (w : World) (cd : Cd) (P : Pm) (x : CS) (m : Nat) (X Y : Value) (W : World) : Prop where
  k : CoAt W cd P x
  h : CI P x m
  b : Bx w W X Y
theorem LpW.same {w : World} {cd : Cd} {P : Pm} {x : CS} {m : Nat} {X Y : Value} {W W' : World} (h : LpW w cd P x m X Y W) (b : Below W.heap.size W W') : LpW w cd P x m X Y W' := ⟨h.k.same b, h.h, h.b.step b⟩
theorem LpW.act {w : World} {cd : Cd} {P : Pm} {x : CS} {m : Nat} {X Y : Value} {W W' : World} (h : LpW w cd P x m X Y W) (D : Dj P) (hc : ∀ q, q < w.heap.size + 1 → cd.col q = 0) (kd i : Int) (k : CoAt W' cd P (doC P x kd i)) (kp : Kp cd.col W W') : LpW w cd P (doC P x kd i) (m + 1) X Y W' := ⟨k, h.h.act D kd i, Bx_kp h.b kp hc⟩
theorem list3 {α : Type} {l : List α} (h : l.length = 3) : ∃ a b c, l = [a, b, c] := by
  match l, h with
  | [a, b, c], _ => exact ⟨a, b, c, rfl⟩
end Go.Proofs.YtfnmggmgdmokcaaGreat.Cm

/- Package cohort: other blocks are turned, among them such as were made since; the references' leaves. -/
namespace Go.Proofs.YtfnmggmgdmokcaaGreat.Cm
open Go.RowKit Go.Proofs.YtfnmggmgdmokcaaGreat.Tp Go.Proofs.YtfnmggmgdmokcaaGreat.Ara Go.Proofs.YtfnmggmgdmokcaaGreat.Lok Go.Proofs.YtfnmggmgdmokcaaGreat.Fl Go.Proofs.YtfnmggmgdmokcaaGreat.Co

structure Hi (c : Cd) (NN M : Nat) : Prop where
  a : (c.gl < M ∧ c.gt < M ∧ c.gn < M ∧ c.gs < M) ∧ (c.hn < M ∧ c.hs < M ∧ c.gf < M ∧ c.gk < M ∧ c.gh < M) ∧ (c.ga < M ∧ c.ha < M)
  l : ∀ n, n < NN → c.lf n < M ∧ c.lk n < M ∧ c.lh n < M
section
variable {W W' : World} {c : Cd} {P : Pm} {x : CS} (K : CoAt W c P x)
include K
theorem CoAt.hi : Hi c P.NN W.heap.size := by
  obtain ⟨s1, s2, s3, s4, s5⟩ := K.s.sz
  have hf := K.d.fg.blocks
  refine ⟨⟨⟨K.lt.1, s1, s2, s3⟩, ⟨s4, K.lt.2, hf.1, hf.2.1, hf.2.2.2⟩, hf.2.2.1, s5⟩, fun n hn => ?_⟩
  have hb := (K.d.fl n hn).blocks
  exact ⟨hb.1, hb.2.1, hb.2.2.2⟩
theorem CoAt.high {M : Nat} (hi : Hi c P.NN M) {S : List Nat} (hm : Mod S W W') (hS : ∀ b ∈ S, M ≤ b) : CoAt W' c P x := by
  obtain ⟨⟨a1, a2, a3, a4⟩, ⟨a5, a6, a7, a8, a9⟩, b1, b2⟩ := hi.a
  obtain ⟨s1, s2, s3, s4, s5⟩ := K.s.sz
  have ne : ∀ q, q < M → q ∉ S := fun q hq hx => by have := hS q hx; omega
  have cm : ∀ (g i : Nat), g < W.heap.size → g < M → W'.cell? ⟨g, i, none⟩ = W.cell? ⟨g, i, none⟩ := fun g i h1 h2 => by
    unfold World.cell?
    rw [hm.block g h1 (ne g h2)]
  have hsz := hm.size
  refine ⟨⟨hm.blk K.s.lk_ (ne _ a1), (cm _ _ s1 a2).trans K.s.t1, (cm _ _ s1 a2).trans K.s.t2, (cm _ _ s1 a2).trans K.s.t6, (cm _ _ s1 a2).trans K.s.t7, fun k hk => (cm _ _ s2 a3).trans (K.s.rn k hk), fun k hk => (cm _ _ s3 a4).trans (K.s.rs k hk), fun n hn => ⟨(cm _ _ s4 a5).trans (K.s.nr n hn).1, (cm _ _ s4 a5).trans (K.s.nr n hn).2⟩, K.s.c0, K.s.cl, K.s.ch, by omega, fun b hb => K.s.fresh b (by omega)⟩,
    ⟨K.d.ar.mod hm (ne _ b1) (ne _ b2), K.d.sp.mod hm (ne _ a6), K.d.fg.mod hm (ne _ a7) (ne _ a8) (ne _ b1) (ne _ b2) (ne _ a9), fun n hn => ?_⟩, K.len⟩
  obtain ⟨l1, l2, l3⟩ := hi.l n hn
  exact (K.d.fl n hn).mod hm (ne _ l1) (ne _ l2) (ne _ b1) (ne _ b2) (ne _ l3)
end
end Go.Proofs.YtfnmggmgdmokcaaGreat.Cm

/- Within how many picks: what is left tO do of those ahead; windows of a fair script: the plain law. -/
namespace Go.Proofs.YtfnmggmgdmokcaaGreat.Sn

def ahead (c : Int → Nat) : List Int → Int → Nat
  | [], _ => 0
  | u :: r, t => if u = t then 0 else c u + ahead c r t
theorem ahead_le {c c' : Int → Nat} {q : List Int} {t : Int} (h : ∀ u, u ∈ q → u ≠ t → c' u ≤ c u) : ahead c' q t ≤ ahead c q t := by
  induction q with
  | nil => exact Nat.le_refl _
  | cons u r ih =>
    unfold ahead
    by_cases e : u = t
    · rw [if_pos e, if_pos e]; exact Nat.le_refl _
    · rw [if_neg e, if_neg e]
      have h1 := h u (by simp) e
      have h2 := ih (fun v hv => h v (by simp [hv]))
      omega
def isAhead : List Int → Int → Int → Prop
  | [], _, _ => False
  | u :: r, t, v => u ≠ t ∧ (u = v ∨ isAhead r t v)
theorem ahead_lt {c c' : Int → Nat} {q : List Int} {t v : Int} (h : ∀ u, u ∈ q → u ≠ t → c' u ≤ c u) (hv : isAhead q t v) (hl : c' v < c v) : ahead c' q t < ahead c q t := by
  induction q with
  | nil => exact absurd hv id
  | cons u r ih =>
    obtain ⟨e, hv⟩ := hv
    unfold ahead
    rw [if_neg e, if_neg e]
    have h1 := h u (by simp) e
    have h2 := ahead_le (c := c) (c' := c') (q := r) (t := t) (fun v hv => h v (by simp [hv]))
    rcases hv with rfl | hv
    · omega
    · have := ih (fun v hv => h v (by simp [hv])) hv
      omega
theorem ahead_push {c : Int → Nat} {q : List Int} {t : Int} (ht : t ∈ q) (i : Int) : ahead c (q ++ [i]) t = ahead c q t := by
  induction q with
  | nil => simp at ht
  | cons u r ih =>
    show ahead c (u :: (r ++ [i])) t = _
    unfold ahead
    by_cases e : u = t
    · rw [if_pos e, if_pos e]
    · rw [if_neg e, if_neg e, ih (by simp at ht; rcases ht with rfl | ht; exact absurd rfl e; exact ht)]
theorem nodup_len {N : Nat} : ∀ {q : List Int}, q.Nodup → (∀ u, u ∈ q → 0 ≤ u ∧ u < (N : Int)) → q.length ≤ N := by
  induction N with
  | zero =>
    intro q _ h
    cases q with
    | nil => exact Nat.le_refl _
    | cons u r => have := h u (by simp); omega
  | succ N ih =>
    intro q hn h
    by_cases hm : (N : Int) ∈ q
    · have h1 : (q.erase (N : Int)).length = q.length - 1 := List.length_erase_of_mem hm
      have h2 := ih (q := q.erase (N : Int)) (hn.erase _) (fun u hu => by
        have h3 := (List.Nodup.mem_erase_iff hn).1 hu
        have h4 := h u h3.2
        have := h3.1
        omega)
      omega
    · have := ih hn (fun u hu => by
        have h4 := h u hu
        have : u ≠ (N : Int) := fun e => hm (e ▸ hu)
        omega)
      omega
section
variable {picks : List Int} {N k : Nat} {Wt : Nat → Prop} {En : Nat → Prop} {D : Nat → Nat} {cr : Nat → Int}
end
end Go.Proofs.YtfnmggmgdmokcaaGreat.Sn

/- The queues of the global lock, and of each node's: how an act turns them: the plain law. -/
namespace Go.Proofs.YtfnmggmgdmokcaaGreat.Co
open Go.RowKit Go.Proofs.YtfnmggmgdmokcaaGreat.Ara Go.Proofs.YtfnmggmgdmokcaaGreat.Lok Go.Proofs.YtfnmggmgdmokcaaGreat.Fl

structure Qs (P : Pm) (x : CS) (q : List Int) (ql : Nat → List Int) : Prop where
  g : QuK P.pg x.σ x.g q
  l : ∀ n, n < P.NN → QuK (P.pl n) x.σ (x.loc n) (ql n)
def Qw (q q' : List Int) (s : Int) : Prop := q' = q ∨ q' = q ++ [s] ∨ q = s :: q'
theorem turnq {p : PK} {σ : Ar} {sp : List Sp} {q : List Int} (h : QuK p σ sp q) (i : Int) : ∃ q', Qw q q' i ∧ QuK p (doK p σ sp 0 i).2.1 (doK p σ sp 0 i).2.2 q' := by
  rcases h.step i with ⟨_, h1⟩ | ⟨_, _, t, e, h1⟩ | ⟨_, _, h1⟩
  · exact ⟨_, .inr (.inl rfl), h1⟩
  · exact ⟨t, .inr (.inr e), h1⟩
  · exact ⟨q, .inl rfl, h1⟩
theorem qask {p : PK} {σ : Ar} {sp : List Sp} {q : List Int} (h : QuK p σ sp q) (i : Int) : QuK p σ (doK p σ sp 1 i).2.2 q := by
  have := h.ask i
  rwa [do12 p σ sp (.inl rfl) i] at this
theorem qleave {p : PK} {σ : Ar} {sp : List Sp} {q : List Int} (h : QuK p σ sp q) (i : Int) : QuK p σ (doK p σ sp 2 i).2.2 q := by
  have := h.leave i
  rwa [do12 p σ sp (.inr rfl) i] at this
section
variable {P : Pm} {x : CS} {m : Nat} (D : Dj P) (H : CI P x m) {q : List Int} {ql : Nat → List Int} (hq : Qs P x q ql)
include D H hq
theorem Qs.tl {t : Nat} (ht : t < P.T) (kd : Int) (q1 : List Int) (S' : List Sp) (h1 : QuK (P.pl (P.nd t)) (doK (P.pl (P.nd t)) x.σ (x.loc (P.nd t)) kd (P.sl t)).2.1 (doK (P.pl (P.nd t)) x.σ (x.loc (P.nd t)) kd (P.sl t)).2.2 q1) :
    Qs P ⟨(doK (P.pl (P.nd t)) x.σ (x.loc (P.nd t)) kd (P.sl t)).2.1, x.g, upd x.loc (P.nd t) (doK (P.pl (P.nd t)) x.σ (x.loc (P.nd t)) kd (P.sl t)).2.2, S'⟩ q (upd ql (P.nd t) q1) := by
  obtain ⟨a1, a2, _⟩ := H.loc_al D ht kd
  refine ⟨hq.g.al (by rw [H.og.len]; exact a1), fun n hn => ?_⟩
  by_cases e : n = P.nd t
  · subst e
    show QuK _ _ (upd x.loc (P.nd t) _ (P.nd t)) (upd ql (P.nd t) q1 (P.nd t))
    rw [upd_self, upd_self]; exact h1
  · show QuK _ _ (upd x.loc (P.nd t) _ n) (upd ql (P.nd t) q1 n)
    rw [upd_other _ _ e, upd_other _ _ e]
    exact (hq.l n hn).al (by rw [(H.ol n hn).len]; exact a2 n hn e)
omit hq in
theorem Qs.tw {n0 : Nat} (hn0 : n0 < P.NN) (kd v : Int) (wr : Bool) (g' : List Sp) (l' : Nat → List Sp) (S' : List Sp) (hg : QuK P.pg x.σ g' q) (hgl : g'.length = P.NN) (hl : ∀ n, n < P.NN → QuK (P.pl n) x.σ (l' n) (ql n) ∧ (l' n).length = P.mt n) :
    Qs P ⟨x.σ.op kd (P.cw n0) wr v, g', l', S'⟩ q ql := by
  obtain ⟨a1, a2, _⟩ := H.op_al D hn0 kd v wr
  exact ⟨hg.al (by rw [hgl]; exact a1), fun n hn => (hl n hn).1.al (by rw [(hl n hn).2]; exact a2 n hn)⟩
omit hq in
theorem Qs.tg {n0 : Nat} (kd : Int) (q1 : List Int) (l' : Nat → List Sp) (S' : List Sp) (h1 : QuK P.pg (doK P.pg x.σ x.g kd n0).2.1 (doK P.pg x.σ x.g kd n0).2.2 q1) (hl : ∀ n, n < P.NN → QuK (P.pl n) x.σ (l' n) (ql n) ∧ (l' n).length = P.mt n) :
    Qs P ⟨(doK P.pg x.σ x.g kd n0).2.1, (doK P.pg x.σ x.g kd n0).2.2, l', S'⟩ q1 ql := by
  obtain ⟨a2, _⟩ := H.glo_al D n0 kd
  exact ⟨h1, fun n hn => (hl n hn).1.al (by rw [(hl n hn).2]; exact a2 n hn)⟩
omit D in
theorem Qs.locs : ∀ n, n < P.NN → QuK (P.pl n) x.σ (x.loc n) (ql n) ∧ (x.loc n).length = P.mt n := fun n hn => ⟨hq.l n hn, (H.ol n hn).len⟩
omit D in
theorem Qs.leaves {n0 : Nat} (i : Int) : ∀ n, n < P.NN → QuK (P.pl n) x.σ (upd x.loc n0 (doK (P.pl n0) x.σ (x.loc n0) 2 i).2.2 n) (ql n) ∧ (upd x.loc n0 (doK (P.pl n0) x.σ (x.loc n0) 2 i).2.2 n).length = P.mt n := fun n hn => by
  by_cases e : n = n0
  · subst e
    rw [upd_self]
    exact ⟨qleave (hq.l n hn) i, (do_len _ _ _ _ _).trans (H.ol n hn).len⟩
  · rw [upd_other _ _ e]
    exact ⟨hq.l n hn, (H.ol n hn).len⟩
theorem Qs.step {t : Nat} (ht : t < P.T) : ∃ q' ql', Qs P (stepC P x t) q' ql' ∧ Qw q q' (P.nd t) ∧ Qw (ql (P.nd t)) (ql' (P.nd t)) (P.sl t) ∧ ∀ n, n ≠ P.nd t → ql' n = ql n := by
  obtain ⟨hn, hsl⟩ := D.nd t ht
  have hp := H.rel t ht
  unfold relP at hp
  have L := hq.locs H
  have LL := hq.leaves H (n0 := P.nd t) (P.sl t)
  have G := hq.g
  have Gl := H.og.len
  have done : ∀ y, Qs P y q ql → ∃ q' ql', Qs P y q' ql' ∧ Qw q q' (P.nd t) ∧ Qw (ql (P.nd t)) (ql' (P.nd t)) (P.sl t) ∧ ∀ n, n ≠ P.nd t → ql' n = ql n := fun y hy => ⟨q, ql, hy, .inl rfl, .inl rfl, fun _ _ => rfl⟩
  have doneL : ∀ y q1, Qw (ql (P.nd t)) q1 (P.sl t) → Qs P y q (upd ql (P.nd t) q1) → ∃ q' ql', Qs P y q' ql' ∧ Qw q q' (P.nd t) ∧ Qw (ql (P.nd t)) (ql' (P.nd t)) (P.sl t) ∧ ∀ n, n ≠ P.nd t → ql' n = ql n := fun y q1 h1 hy => ⟨q, _, hy, .inl rfl, by rw [upd_self]; exact h1, fun n hne => upd_other _ _ hne⟩
  have doneG : ∀ y q1, Qw q q1 (P.nd t) → Qs P y q1 ql → ∃ q' ql', Qs P y q' ql' ∧ Qw q q' (P.nd t) ∧ Qw (ql (P.nd t)) (ql' (P.nd t)) (P.sl t) ∧ ∀ n, n ≠ P.nd t → ql' n = ql n := fun y q1 h1 hy => ⟨q1, ql, hy, h1, .inl rfl, fun _ _ => rfl⟩
  unfold stepC
  rcases (show pcT x t = 0 ∨ pcT x t = 10 ∨ pcT x t = 1 ∨ pcT x t = 2 ∨ pcT x t = 3 ∨ pcT x t = 4 ∨ pcT x t = 11 ∨ pcT x t = 12 ∨ pcT x t = 13 ∨ pcT x t = 14 ∨ pcT x t = 15 ∨ pcT x t = 16 by omega) with e | e | e | e | e | e | e | e | e | e | e | e
  · rw [if_pos (.inl e)]; exact done _ hq
  · rw [if_pos (.inr e)]; exact done _ hq
  · rw [if_neg (by show ¬ (pcT x t = 0 ∨ pcT x t = 10); omega), Int.toNat_natCast, if_pos (by show pcT x t < 10; omega)]; unfold inC
    rw [if_pos e]
    obtain ⟨q1, w1, h1⟩ := turnq (hq.l _ hn) (P.sl t)
    exact doneL _ q1 w1 (hq.tl D H ht 0 q1 _ h1)
  · rw [if_neg (by show ¬ (pcT x t = 0 ∨ pcT x t = 10); omega), Int.toNat_natCast, if_pos (by show pcT x t < 10; omega)]; unfold inC
    rw [if_neg (by show ¬ pcT x t = 1; omega), if_pos e]
    split
    · exact done _ (Qs.tw D H hn _ _ _ _ _ _ G Gl L)
    · exact done _ (Qs.tw D H hn _ _ _ _ _ _ (qask G _) ((do_len _ _ _ _ _).trans Gl) L)
  · rw [if_neg (by show ¬ (pcT x t = 0 ∨ pcT x t = 10); omega), Int.toNat_natCast, if_pos (by show pcT x t < 10; omega)]; unfold inC
    rw [if_neg (by show ¬ pcT x t = 1; omega), if_neg (by show ¬ pcT x t = 2; omega), if_pos e]
    obtain ⟨q1, w1, h1⟩ := turnq G (P.nd t)
    exact doneG _ q1 w1 (Qs.tg D H 0 q1 _ _ h1 L)
  · rw [if_neg (by show ¬ (pcT x t = 0 ∨ pcT x t = 10); omega), Int.toNat_natCast, if_pos (by show pcT x t < 10; omega)]; unfold inC
    rw [if_neg (by show ¬ pcT x t = 1; omega), if_neg (by show ¬ pcT x t = 2; omega), if_neg (by show ¬ pcT x t = 3; omega), if_pos e]
    exact done _ (Qs.tw D H hn _ _ _ _ _ _ G Gl L)
  · rw [if_neg (by show ¬ (pcT x t = 0 ∨ pcT x t = 10); omega), Int.toNat_natCast, if_neg (by show ¬ pcT x t < 10; omega)]; unfold outC
    rw [if_pos e]
    exact done _ (Qs.tw D H hn _ _ _ _ _ _ G Gl L)
  · rw [if_neg (by show ¬ (pcT x t = 0 ∨ pcT x t = 10); omega), Int.toNat_natCast, if_neg (by show ¬ pcT x t < 10; omega)]; unfold outC
    rw [if_neg (by show ¬ pcT x t = 11; omega), if_pos e]
    have h3 := (hq.l _ hn).alone (P.sl t)
    have := hq.tl D H ht 3 _ (x.S.set t { spOf x.S t with pc := if passes (spOf x.S t).a P.B (doK (P.pl (P.nd t)) x.σ (x.loc (P.nd t)) 3 (P.sl t)).1 then 13 else 14 }) h3
    have hu : upd x.loc (P.nd t) (doK (P.pl (P.nd t)) x.σ (x.loc (P.nd t)) 3 (P.sl t)).2.2 = x.loc := by
      funext j
      unfold upd
      split
      · rename_i h; rw [h, alone_sp]
      · rfl
    have hu2 : upd ql (P.nd t) (ql (P.nd t)) = ql := by
      funext j
      unfold upd
      split
      · rename_i h; rw [h]
      · rfl
    rw [hu, hu2] at this
    exact done _ this
  · rw [if_neg (by show ¬ (pcT x t = 0 ∨ pcT x t = 10); omega), Int.toNat_natCast, if_neg (by show ¬ pcT x t < 10; omega)]; unfold outC
    rw [if_neg (by show ¬ pcT x t = 11; omega), if_neg (by show ¬ pcT x t = 12; omega), if_pos e]
    exact done _ (Qs.tw D H hn _ _ _ _ _ _ G Gl LL)
  · rw [if_neg (by show ¬ (pcT x t = 0 ∨ pcT x t = 10); omega), Int.toNat_natCast, if_neg (by show ¬ pcT x t < 10; omega)]; unfold outC
    rw [if_neg (by show ¬ pcT x t = 11; omega), if_neg (by show ¬ pcT x t = 12; omega), if_neg (by show ¬ pcT x t = 13; omega), if_pos e]
    exact done _ (Qs.tw D H hn _ _ _ _ _ _ (qleave G _) ((do_len _ _ _ _ _).trans Gl) L)
  · rw [if_neg (by show ¬ (pcT x t = 0 ∨ pcT x t = 10); omega), Int.toNat_natCast, if_neg (by show ¬ pcT x t < 10; omega)]; unfold outC
    rw [if_neg (by show ¬ pcT x t = 11; omega), if_neg (by show ¬ pcT x t = 12; omega), if_neg (by show ¬ pcT x t = 13; omega), if_neg (by show ¬ pcT x t = 14; omega), if_pos e]
    obtain ⟨q1, w1, h1⟩ := turnq G (P.nd t)
    split
    · exact doneG _ q1 w1 (Qs.tg D H 0 q1 _ _ h1 LL)
    · exact doneG _ q1 w1 (Qs.tg D H 0 q1 _ _ h1 L)
  · rw [if_neg (by show ¬ (pcT x t = 0 ∨ pcT x t = 10); omega), Int.toNat_natCast, if_neg (by show ¬ pcT x t < 10; omega)]; unfold outC
    rw [if_neg (by show ¬ pcT x t = 11; omega), if_neg (by show ¬ pcT x t = 12; omega), if_neg (by show ¬ pcT x t = 13; omega), if_neg (by show ¬ pcT x t = 14; omega), if_neg (by show ¬ pcT x t = 15; omega), if_pos e]
    obtain ⟨q1, w1, h1⟩ := turnq (hq.l _ hn) (P.sl t)
    exact doneL _ q1 w1 (hq.tl D H ht 0 q1 _ h1)
theorem Qs.act (kd i : Int) : ∃ q' ql', Qs P (doC P x kd i) q' ql' ∧ ((q' = q ∧ ql' = ql) ∨ ∃ t : Nat, i = t ∧ t < P.T ∧ Qw q q' (P.nd t) ∧ Qw (ql (P.nd t)) (ql' (P.nd t)) (P.sl t) ∧ ∀ n, n ≠ P.nd t → ql' n = ql n) := by
  have hw := H.aw D kd i
  generalize doC P x kd i = x' at *
  cases hw with
  | same e => subst e; exact ⟨q, ql, hq, .inl ⟨rfl, rfl⟩⟩
  | step t ht e hx hm ho =>
    subst hx
    obtain ⟨q', ql', h1, h2, h3, h4⟩ := hq.step D H ht
    exact ⟨q', ql', h1, .inr ⟨t, e, ht, h2, h3, h4⟩⟩
  | ask t ht e h0 h1 hσ hg hl hl1 ho =>
    refine ⟨q, ql, ⟨by rw [hσ, hg]; exact hq.g, fun n hn => ?_⟩, .inl ⟨rfl, rfl⟩⟩
    rw [hσ, hl]
    by_cases e : n = P.nd t
    · subst e; rw [upd_self]; exact qask (hq.l _ hn) _
    · rw [upd_other _ _ e]; exact hq.l n hn
  | leave t ht e h0 h1 ha hσ hg hl ho => exact ⟨q, ql, ⟨by rw [hσ, hg]; exact hq.g, fun n hn => by rw [hσ, hl]; exact hq.l n hn⟩, .inl ⟨rfl, rfl⟩⟩
end
end Go.Proofs.YtfnmggmgdmokcaaGreat.Co

/- How many enter while a node is behind the global doorway: the plain law. -/
namespace Go.Proofs.YtfnmggmgdmokcaaGreat.Co
open Go.RowKit Go.Proofs.YtfnmggmgdmokcaaGreat.Ara Go.Proofs.YtfnmggmgdmokcaaGreat.Lok Go.Proofs.YtfnmggmgdmokcaaGreat.Fl Go.Proofs.YtfnmggmgdmokcaaGreat.Sn

theorem ahead_end {c : Int → Nat} {q : List Int} {v : Int} (C : Nat) (h : ∀ u, u ∈ q → c u ≤ C) : Sn.ahead c (q ++ [v]) v ≤ q.length * C := by
  induction q with
  | nil => show Sn.ahead c [v] v ≤ _; unfold Sn.ahead; rw [if_pos rfl]; exact Nat.zero_le _
  | cons u r ih =>
    show Sn.ahead c (u :: (r ++ [v])) v ≤ _
    unfold Sn.ahead
    have h1 := h u (by simp)
    have h2 := ih (fun w hw => h w (by simp [hw]))
    rw [List.length_cons, Nat.add_mul]
    split <;> omega
theorem isAhead_head {q : List Int} {v w : Int} (hh : q.head? = some w) (hne : w ≠ v) : isAhead q v w := by
  cases q with
  | nil => simp at hh
  | cons u r =>
    obtain rfl : u = w := by simpa using hh
    exact ⟨hne, .inl rfl⟩
def rem (P : Pm) (x : CS) (last : Option (Nat × Int)) (w : Int) : Nat :=
  if pcG x w.toNat < 10 then (P.B + 1).toNat else if pcG x w.toNat = 10 then (if 0 < cnW P x w.toNat then (P.B + 1 - (last.map (·.2)).getD 0).toNat else (P.B + 1).toNat) else 0
def behind (P : Pm) (x : CS) (v : Nat) : Prop := dr P.pg < pcG x v ∧ pcG x v < 10
instance (P : Pm) (x : CS) (v : Nat) : Decidable (behind P x v) := by unfold behind; exact inferInstance
theorem dr_pos (p : PK) : 0 ≤ dr p ∧ dr p < 10 := by cases p <;> (simp only [dr]; omega)
section
variable {P : Pm} {x : CS} {m : Nat} (D : Dj P) (H : CI P x m) {last : Option (Nat × Int)} (h : TI P x last)
include D H h
theorem rem_le (kd i : Int) (he : entB x (doC P x kd i) i = false) {n : Nat} (hn : n < P.NN) (hd : dr P.pg < pcG (doC P x kd i) n) : rem P (doC P x kd i) last n ≤ rem P x last n := by
  have hw := H.aw D kd i
  have hd0 := dr_pos P.pg
  generalize doC P x kd i = x' at *
  have same : ∀ k, cnW P x' k = cnW P x k → pcG x' k = pcG x k → rem P x' last k = rem P x last k := fun k h1 h2 => by
    unfold rem
    rw [Int.toNat_natCast, h1, h2]
  have no : ∀ t : Nat, i = t → ¬ (pcT x t < 10 ∧ pcT x' t = 10) := fun t e hn => by
    subst e
    rw [entB_yes hn.1 hn.2] at he
    cases he
  cases hw with
  | same e => subst e; exact Nat.le_refl _
  | ask t ht e h0 h1 hσ hg hl hl1 ho => exact Nat.le_of_eq (same n (by show x'.σ.get _ = _; rw [hσ]) (by show (spOf x'.g _).pc = _; rw [hg]))
  | leave t ht e h0 h1 ha hσ hg hl ho => exact Nat.le_of_eq (same n (by show x'.σ.get _ = _; rw [hσ]) (by show (spOf x'.g _).pc = _; rw [hg]))
  | step t ht e hx hm ho =>
    by_cases en : n = P.nd t
    · subst en
      have hN := H.nod t ht
      unfold nodP at hN
      have small : pcG x (P.nd t) < 10 ∨ (pcG x (P.nd t) = 10 ∧ cnW P x (P.nd t) = 0) → rem P x' last (P.nd t) ≤ rem P x last (P.nd t) := fun hs => by
        have hle : rem P x last (P.nd t) = (P.B + 1).toNat := by
          unfold rem
          rw [Int.toNat_natCast]
          rcases hs with hs | hs
          · rw [if_pos hs]
          · rw [if_neg (by omega), if_pos hs.1, if_neg (by omega)]
        rw [hle]
        have hx0 : pcG x' (P.nd t) < 10 ∨ (pcG x' (P.nd t) = 10 ∧ cnW P x' (P.nd t) = 0) → rem P x' last (P.nd t) ≤ (P.B + 1).toNat := fun hs => by
          unfold rem
          rw [Int.toNat_natCast]
          rcases hs with hs | hs
          · rw [if_pos hs]; exact Nat.le_refl _
          · rw [if_neg (by omega), if_pos hs.1, if_neg (by omega)]; exact Nat.le_refl _
        cases hm with
        | rest e hp => subst e; exact hx0 hs
        | loc1 a b c d e => exact hx0 (by omega)
        | got1 a b c d e => exact hx0 (by omega)
        | ask2 a b c d e f g => exact hx0 (by omega)
        | glo3 a b c d e f g => exact hx0 (by omega)
        | got3 a b c d e f g => exact hx0 (by omega)
        | loc16 a b c d e => exact hx0 (by omega)
        | got16 a b c d e => exact hx0 (by omega)
        | ent2 a b c d e f g k => exact absurd ⟨by omega, b⟩ (no t (by assumption))
        | ent4 a b c d e f g k => exact absurd ⟨by omega, b⟩ (no t (by assumption))
        | st14 a b c d e f =>
          unfold rem
          rw [Int.toNat_natCast, if_neg (by omega), if_neg (by omega)]
          exact Nat.zero_le _
        | _ => omega
      cases hm with
      | rest e hp => subst e; exact Nat.le_refl _
      | loc1 a b c d e => exact Nat.le_of_eq (same _ d e)
      | got1 a b c d e => exact Nat.le_of_eq (same _ d e)
      | ent2 a b c d e f g k => exact absurd ⟨by omega, b⟩ (no t (by assumption))
      | ask2 a b c d e f g => exact small (by omega)
      | glo3 a b c d e f g => exact small (by omega)
      | got3 a b c d e f g => exact small (by omega)
      | ent4 a b c d e f g k => exact absurd ⟨by omega, b⟩ (no t (by assumption))
      | ld11 a b c d e f => exact Nat.le_of_eq (same _ d (f.trans e.symm))
      | al12 a b c d e f => exact Nat.le_of_eq (same _ d (f.trans e.symm))
      | st13 a b c d e f g =>
        have := hN.2.2.1 (by omega)
        unfold rem
        rw [Int.toNat_natCast, if_neg (by omega), if_pos g, if_pos (by omega), if_neg (by omega), if_pos f, if_pos (by omega)]
        exact Nat.le_refl _
      | st14 a b c d e f =>
        unfold rem
        rw [Int.toNat_natCast, if_neg (by omega), if_neg (by omega)]
        exact Nat.zero_le _
      | glo15 a b c d e f g =>
        unfold rem
        rw [Int.toNat_natCast, if_neg (by omega), if_neg (by omega)]
        exact Nat.zero_le _
      | got15 a b c d e f g => omega
      | loc16 a b c d e => exact Nat.le_of_eq (same _ d e)
      | got16 a b c d e => exact Nat.le_of_eq (same _ d e)
    · exact Nat.le_of_eq (same n (ho.c n hn en) (ho.g n en))
theorem rem_ent (kd i : Int) (he : entB x (doC P x kd i) i = true) : ∃ t : Nat, i = t ∧ t < P.T ∧ pcG x (P.nd t) = 10 ∧ pcG (doC P x kd i) (P.nd t) = 10 ∧ rem P (doC P x kd i) (lastC P x (doC P x kd i) i last) (P.nd t) < rem P x last (P.nd t) ∧
    ∀ n, n < P.NN → n ≠ P.nd t → pcG (doC P x kd i) n = pcG x n ∧ rem P (doC P x kd i) (lastC P x (doC P x kd i) i last) n = rem P x last n := by
  obtain ⟨t, e, ht, h1, h2, g1, g2, ha, c1, c2, hc⟩ := h.ent D H kd i he
  have H' := H.act D kd i
  have hw := H.aw D kd i
  have hB := D.B0
  have hl : lastC P x (doC P x kd i) i last = some (P.nd t, cnW P (doC P x kd i) (P.nd t)) := by
    unfold lastC
    rw [if_pos he]
    rw [← ha, e, Int.toNat_natCast]
  generalize doC P x kd i = x' at *
  refine ⟨t, e, ht, g1, g2, ?_, fun n hn hne => ?_⟩
  · rw [hl]
    unfold rem
    rw [Int.toNat_natCast, if_neg (by omega), if_pos g2, if_pos (by omega), if_neg (by omega), if_pos g1]
    rcases hc with ⟨a, b⟩ | ⟨a, b, κ, e1, e2⟩
    · rw [if_neg (by omega), b]
      show (P.B + 1 - 1).toNat < _
      omega
    · rw [if_pos a, b, e1]
      show (P.B + 1 - cnW P x (P.nd t)).toNat < (P.B + 1 - κ).toNat
      omega
  · have hg : pcG x' n = pcG x n ∧ cnW P x' n = cnW P x n := by
      cases hw with
      | same e => subst e; exact ⟨rfl, rfl⟩
      | ask t' ht' e' h0 h1 hσ hg hl hl1 ho => exact ⟨(by show (spOf x'.g _).pc = _; rw [hg]), (by show x'.σ.get _ = _; rw [hσ])⟩
      | leave t' ht' e' h0 h1 ha hσ hg hl ho => exact ⟨(by show (spOf x'.g _).pc = _; rw [hg]), (by show x'.σ.get _ = _; rw [hσ])⟩
      | step t' ht' e' hx hm ho =>
        obtain rfl : t' = t := by omega
        exact ⟨ho.g n hne, ho.c n hn hne⟩
    have hs : pcG x n ≠ 10 := fun h9 => by
      have := H.og.sole (i := n) (j := P.nd t) (by show 10 ≤ pcG x n; omega) (by show 10 ≤ pcG x (P.nd t); omega)
      omega
    refine ⟨hg.1, ?_⟩
    unfold rem
    rw [Int.toNat_natCast, hg.1, hg.2]
    by_cases h10 : pcG x n < 10
    · rw [if_pos h10, if_pos h10]
    · simp only [if_neg h10, if_neg hs]
omit D H h in
theorem q_range {q : List Int} {y : CS} {k : Nat} (HY : CI P y k) (hq : QuK P.pg y.σ y.g q) {u : Int} (hu : u ∈ q) : ∃ n : Nat, u = n ∧ n < P.NN ∧ dr P.pg < pcG y n := by
  have h1 := (hq.mem u).1 hu
  have hd0 := dr_pos P.pg
  obtain ⟨u0, u1⟩ := spOf_range (sp := y.g) (i := u) (by omega)
  obtain ⟨n, rfl⟩ := Int.eq_ofNat_of_zero_le u0
  exact ⟨n, rfl, by have := HY.og.len; omega, h1⟩
theorem rank {q q' : List Int} (kd i : Int) {s : Int} (hq : QuK P.pg x.σ x.g q) (hq' : QuK P.pg (doC P x kd i).σ (doC P x kd i).g q') (hw : Qw q q' s) {v : Nat} (b : behind P x v) (b' : behind P (doC P x kd i) v) :
    Sn.ahead (rem P (doC P x kd i) (lastC P x (doC P x kd i) i last)) q' v + (if entB x (doC P x kd i) i then 1 else 0) ≤ Sn.ahead (rem P x last) q v := by
  have H' := H.act D kd i
  have hv : (v : Int) ∈ q := (hq.mem v).2 b.1
  have hv' : (v : Int) ∈ q' := (hq'.mem v).2 b'.1
  have hnd := hq.nodup
  have hnd' := hq'.nodup
  cases he : entB x (doC P x kd i) i with
  | true =>
    obtain ⟨t, e, ht, g1, g2, r1, r2⟩ := rem_ent D H h kd i he
    have hd0 := dr_pos P.pg
    have w1 : ((P.nd t : Nat) : Int) ∈ q := (hq.mem _).2 (by show dr P.pg < pcG x (P.nd t); omega)
    have w2 : ((P.nd t : Nat) : Int) ∈ q' := (hq'.mem _).2 (by show dr P.pg < pcG (doC P x kd i) (P.nd t); omega)
    have hh := hq.head (i := (P.nd t : Int)) (by show 10 ≤ pcG x (P.nd t); omega)
    have hh' := hq'.head (i := (P.nd t : Int)) (by show 10 ≤ pcG (doC P x kd i) (P.nd t); omega)
    have hvn : ((P.nd t : Nat) : Int) ≠ v := fun e9 => by
      have : P.nd t = v := by omega
      rw [this] at g1
      have := b.2
      omega
    rw [if_pos rfl]
    have le : ∀ u, u ∈ q → u ≠ (v : Int) → rem P (doC P x kd i) (lastC P x (doC P x kd i) i last) u ≤ rem P x last u := fun u hu _ => by
      obtain ⟨n, rfl, hn, _⟩ := q_range H hq hu
      by_cases en : n = P.nd t
      · subst en; omega
      · exact Nat.le_of_eq (r2 n hn en).2
    have lt := ahead_lt le (isAhead_head hh hvn) r1
    have push : ∀ l, Sn.ahead (rem P (doC P x kd i) (lastC P x (doC P x kd i) i last)) (q ++ [l]) v = _ := fun l => ahead_push hv l
    rcases hw with e1 | e1 | e1
    · rw [e1]; omega
    · rw [e1, push]; omega
    · rw [e1] at hh
      obtain rfl : s = (P.nd t : Int) := by simpa using hh
      rw [e1] at hnd
      exact absurd w2 (List.nodup_cons.1 hnd).1
  | false =>
    have hl : lastC P x (doC P x kd i) i last = last := by unfold lastC; rw [if_neg (by rw [he]; decide)]
    rw [hl, if_neg (by decide), Nat.add_zero]
    have le : ∀ u, u ∈ q' → rem P (doC P x kd i) last u ≤ rem P x last u := fun u hu => by
      obtain ⟨n, rfl, hn, hd⟩ := q_range H' hq' hu
      exact rem_le D H h kd i he hn hd
    rcases hw with e1 | e1 | e1
    · rw [e1] at le ⊢
      exact ahead_le fun u hu _ => le u hu
    · rw [e1, ahead_push hv]
      exact ahead_le fun u hu _ => le u (by rw [e1]; simp [hu])
    · rw [e1] at hnd hv ⊢
      have hsv : s ≠ v := fun e9 => (List.nodup_cons.1 hnd).1 (e9 ▸ hv')
      have : Sn.ahead (rem P x last) (s :: q') v = rem P x last s + Sn.ahead (rem P x last) q' v := by
        show (if s = v then 0 else _) = _
        rw [if_neg hsv]
      rw [this]
      exact Nat.le_trans (ahead_le fun u hu _ => le u hu) (Nat.le_add_left _ _)
theorem rank0 {q q' : List Int} (kd i : Int) {s : Int} (hq : QuK P.pg x.σ x.g q) (hq' : QuK P.pg (doC P x kd i).σ (doC P x kd i).g q') (hw : Qw q q' s) {v : Nat} (b : ¬ behind P x v) (b' : behind P (doC P x kd i) v) :
    Sn.ahead (rem P (doC P x kd i) (lastC P x (doC P x kd i) i last)) q' v ≤ (P.NN - 1) * (P.B + 1).toNat ∧ entB x (doC P x kd i) i = false ∧ q' = q ++ [(v : Int)] ∧ s = v := by
  have H' := H.act D kd i
  have h' := h.act D H kd i
  have hv' : (v : Int) ∈ q' := (hq'.mem v).2 b'.1
  have hd0 := dr_pos P.pg
  have hvq : (v : Int) ∉ q := fun hv => by
    have h1 := (hq.mem v).1 hv
    have h2 : ¬ pcG x v < 10 := fun h3 => b ⟨h1, h3⟩
    have hh := hq.head (i := (v : Int)) (by show 10 ≤ pcG x v; omega)
    have hw2 := H.aw D kd i
    have hb := b'.2
    have hb1 := b'.1
    generalize doC P x kd i = x' at *
    cases hw2 with
    | same e => subst e; omega
    | ask t ht e h0 h1 hσ hg hl hl1 ho => exact h2 (by rw [show pcG x v = pcG x' v by show _ = (spOf x'.g _).pc; rw [hg]]; exact hb)
    | leave t ht e h0 h1 ha hσ hg hl ho => exact h2 (by rw [show pcG x v = pcG x' v by show _ = (spOf x'.g _).pc; rw [hg]]; exact hb)
    | step t ht e hx hm ho =>
      by_cases en : v = P.nd t
      · subst en
        cases hm with
        | rest e hp => subst e; omega
        | _ => omega
      · rw [ho.g v en] at hb; exact h2 hb
  have e1 : q' = q ++ [s] := by
    rcases hw with e1 | e1 | e1
    · rw [e1] at hv'; exact absurd hv' hvq
    · exact e1
    · exact absurd (by rw [e1]; exact List.mem_cons_of_mem _ hv') hvq
  have e2 : s = v := by
    rw [e1] at hv'
    rcases List.mem_append.1 hv' with h9 | h9
    · exact absurd h9 hvq
    · exact (List.mem_singleton.1 h9).symm
  subst e2
  refine ⟨?_, ?_, e1, rfl⟩
  · have hlen := nodup_len (N := P.NN) hq'.nodup (fun u hu => by
      obtain ⟨n, rfl, hn, _⟩ := q_range H' hq' hu
      omega)
    rw [e1, List.length_append, List.length_singleton] at hlen
    have hc : ∀ u, u ∈ q → rem P (doC P x kd i) (lastC P x (doC P x kd i) i last) u ≤ (P.B + 1).toNat := fun u hu => by
      obtain ⟨n, rfl, hn, hd⟩ := q_range H' hq' (u := u) (by rw [e1]; simp [hu])
      unfold rem
      rw [Int.toNat_natCast]
      split
      · exact Nat.le_refl _
      · split
        · split
          · rename_i a1 a2 a3
            obtain ⟨κ, k1, k2⟩ := h' n hn a3 a2
            rw [k1]
            show (P.B + 1 - κ).toNat ≤ _
            have : 0 ≤ κ := by rcases k2 with k2 | k2 <;> omega
            omega
          · exact Nat.le_refl _
        · exact Nat.zero_le _
    rw [e1]
    refine Nat.le_trans (ahead_end _ hc) (Nat.mul_le_mul_right _ (by omega))
  · cases he : entB x (doC P x kd i) i with
    | false => rfl
    | true =>
      exfalso
      obtain ⟨t, e, ht, g1, g2, r1, r2⟩ := rem_ent D H h kd i he
      by_cases en : v = P.nd t
      · subst en
        exact hvq ((hq.mem _).2 (by show dr P.pg < pcG x (P.nd t); omega))
      · have hvN : v < P.NN := by
          obtain ⟨n, e9, hn, _⟩ := q_range H' hq' hv'
          omega
        exact hvq ((hq.mem _).2 (by show dr P.pg < pcG x v; rw [← (r2 v hvN en).1]; exact b'.1))
end
def AH (P : Pm) (x : CS) (last : Option (Nat × Int)) (q : List Int) (passed : Nat → Nat) : Prop := ∀ v, v < P.NN → (behind P x v → passed v + Sn.ahead (rem P x last) q v ≤ (P.NN - 1) * (P.B + 1).toNat) ∧ (¬ behind P x v → passed v = 0)
def passC (P : Pm) (x x' : CS) (i : Int) (passed : Nat → Nat) (v : Nat) : Nat := if behind P x' v then (if entB x x' i then passed v + 1 else passed v) else 0
section
variable {P : Pm} {x : CS} {m : Nat} (D : Dj P) (H : CI P x m) {last : Option (Nat × Int)} (h : TI P x last)
include D H h
theorem AH.act {q q' : List Int} {passed : Nat → Nat} (ha : AH P x last q passed) (kd i : Int) {s : Int} (hq : QuK P.pg x.σ x.g q) (hq' : QuK P.pg (doC P x kd i).σ (doC P x kd i).g q') (hw : Qw q q' s) :
    AH P (doC P x kd i) (lastC P x (doC P x kd i) i last) q' (passC P x (doC P x kd i) i passed) := by
  intro v hv
  refine ⟨fun b' => ?_, fun b' => by unfold passC; rw [if_neg b']⟩
  unfold passC
  rw [if_pos b']
  by_cases b : behind P x v
  · have h1 := rank D H h kd i hq hq' hw b b'
    have h2 := (ha v hv).1 b
    cases he : entB x (doC P x kd i) i with
    | true => rw [he, if_pos rfl] at h1; rw [if_pos rfl]; omega
    | false => rw [he, if_neg (by decide)] at h1; rw [if_neg (by decide)]; omega
  · obtain ⟨r1, r2, _⟩ := rank0 D H h kd i hq hq' hw b b'
    rw [r2, if_neg (by decide), (ha v hv).2 b]
    omega
omit D H h in
theorem AH.le {q : List Int} {passed : Nat → Nat} (ha : AH P x last q passed) {v : Nat} (hv : v < P.NN) : passed v ≤ (P.NN - 1) * (P.B + 1).toNat := by
  by_cases b : behind P x v
  · have := (ha v hv).1 b; omega
  · rw [(ha v hv).2 b]; exact Nat.zero_le _
end
end Go.Proofs.YtfnmggmgdmokcaaGreat.Co

/- A lock that keeps order has a queue: the plain law. -/
namespace Go.Proofs.YtfnmggmgdmokcaaGreat.Fl
open Go.RowKit Go.Proofs.YtfnmggmgdmokcaaGreat.Ara Go.Proofs.YtfnmggmgdmokcaaGreat.Lok

theorem OkK.queue {p : PK} {σ : Ar} {sp : List Sp} {n m : Nat} (h : OkK p σ sp n m) : (∃ P, p = .tas P) ∨ ∃ q, QuK p σ sp q := by
  cases p with
  | tas P => exact .inl ⟨P, rfl⟩
  | tic P =>
    right
    obtain ⟨S, T, hi, _⟩ := Tk.OkP.inv h
    have hle := hi.le
    have hc : ∀ k : Nat, ∃ i, k < T - S → Tk.inq (spOf sp i) ∧ (spOf sp i).a = (S : Int) + k := fun k => by
      by_cases hk : k < T - S
      · obtain ⟨i, h1, h2⟩ := hi.all ((S : Int) + k) (by omega) (by omega)
        exact ⟨i, fun _ => ⟨h1, h2⟩⟩
      · exact ⟨0, fun h => absurd h hk⟩
    refine ⟨(List.range (T - S)).map fun k => (hc k).choose, S, T, hi, by simp; omega, fun k hk => ?_⟩
    rw [List.getElem_map, List.getElem_range]
    exact (hc k).choose_spec (by simpa using hk)
  | par P =>
    right
    obtain ⟨S, T, hi, _⟩ := Pt.OkP.inv h
    have hle := hi.le
    have hc : ∀ k : Nat, ∃ i, k < T - S → Pt.inq (spOf sp i) ∧ (spOf sp i).a = (S : Int) + k := fun k => by
      by_cases hk : k < T - S
      · obtain ⟨i, h1, h2⟩ := hi.all ((S : Int) + k) (by omega) (by omega)
        exact ⟨i, fun _ => ⟨h1, h2⟩⟩
      · exact ⟨0, fun h => absurd h hk⟩
    refine ⟨(List.range (T - S)).map fun k => (hc k).choose, S, T, hi, by simp; omega, fun k hk => ?_⟩
    rw [List.getElem_map, List.getElem_range]
    exact (hc k).choose_spec (by simpa using hk)
  | mcs P => obtain ⟨q, hi⟩ := Mc.OkP.inv h; exact .inr ⟨q, hi⟩
  | clh P => obtain ⟨z, q, hi⟩ := Cl.OkP.inv h; exact .inr ⟨q, z, hi⟩
end Go.Proofs.YtfnmggmgdmokcaaGreat.Fl

/- A global lock of nodes, a local one of the threads of each, both of which keep order: from New on: who has passed whom: the plain law. -/
namespace Go.Proofs.YtfnmggmgdmokcaaGreat.Co
open Go.RowKit Go.Proofs.YtfnmggmgdmokcaaGreat.Ara Go.Proofs.YtfnmggmgdmokcaaGreat.Lok Go.Proofs.YtfnmggmgdmokcaaGreat.Fl

theorem pk_order {kind par : Int} {a : Nat} (h : 2 ≤ kind ∧ kind ≤ 5) {σ : Ar} {sp : List Sp} {n m : Nat} (ho : OkK (pkK kind par a) σ sp n m) : ∃ q, QuK (pkK kind par a) σ sp q := by
  rcases ho.queue with ⟨P, h1⟩ | h1
  · exfalso
    rcases (show kind = 2 ∨ kind = 3 ∨ kind = 4 ∨ kind = 5 by omega) with rfl | rfl | rfl | rfl
    · have : (PK.tic ⟨a⟩) = PK.tas P := h1
      cases this
    · have : (PK.par ⟨a, par⟩) = PK.tas P := h1
      cases this
    · have : (PK.mcs ⟨a⟩) = PK.tas P := h1
      cases this
    · have : (PK.clh ⟨a⟩) = PK.tas P := h1
      cases this
  · exact h1
theorem pk_dr {kind par : Int} {a : Nat} (h : 2 ≤ kind ∧ kind ≤ 5) : 1 ≤ dr (pkK kind par a) := by
  rcases (show kind = 2 ∨ kind = 3 ∨ kind = 4 ∨ kind = 5 by omega) with rfl | rfl | rfl | rfl
  · show (1 : Int) ≤ 1; omega
  · show (1 : Int) ≤ 1; omega
  · show (1 : Int) ≤ 3; omega
  · show (1 : Int) ≤ 2; omega
def Ah (P : Pm) (x : CS) (m : Nat) (passed : Nat → Nat) : Prop := ∃ last q ql, CI P x m ∧ TI P x last ∧ Qs P x q ql ∧ AH P x last q passed
theorem Ah.act {P : Pm} {x : CS} {m : Nat} {passed : Nat → Nat} (D : Dj P) (h : Ah P x m passed) (kd i : Int) : Ah P (doC P x kd i) (m + 1) (passC P x (doC P x kd i) i passed) := by
  obtain ⟨last, q, ql, H, T0, Q, A⟩ := h
  obtain ⟨q', ql', Q', hq⟩ := Q.act D H kd i
  refine ⟨_, q', ql', H.act D kd i, T0.act D H kd i, Q', ?_⟩
  rcases hq with ⟨e, _⟩ | ⟨t, _, _, hw, _⟩
  · exact AH.act D H T0 A kd i (s := 0) Q.g Q'.g (.inl e)
  · exact AH.act D H T0 A kd i Q.g Q'.g hw
theorem Ah.ci {P : Pm} {x : CS} {m : Nat} {passed : Nat → Nat} (h : Ah P x m passed) : CI P x m := by obtain ⟨_, _, _, H, _⟩ := h; exact H
theorem Ah.le {P : Pm} {x : CS} {m : Nat} {passed : Nat → Nat} (h : Ah P x m passed) {v : Nat} (hv : v < P.NN) : passed v ≤ (P.NN - 1) * (P.B + 1).toNat := by
  obtain ⟨_, _, _, _, _, _, A⟩ := h
  exact A.le hv
section
variable {c : Nw} (O : c.Ok) {σ0 : Ar} (hr : c.tN σ0.t c.NN ≤ σ0.ws.length) (hz : ∀ k, σ0.t ≤ k → σ0.ws.getD k 0 = 0) (hw : σ0.ws.length ≤ 4096)
include O hr hz hw
theorem Nw.qs (hg : 2 ≤ c.kg) (hl : 2 ≤ c.kl) : ∃ q ql, Qs (c.pm σ0) (c.st σ0) q ql := by
  obtain ⟨q, hq⟩ := pk_order (show 2 ≤ c.kg ∧ c.kg ≤ 5 from ⟨hg, O.g.1.2⟩) (Nw.ok_g O hr hz hw (Nat.le_refl _))
  have hc : ∀ n : Nat, ∃ ql, n < c.NN → QuK ((c.pm σ0).pl n) (c.st σ0).σ ((c.st σ0).loc n) ql := fun n => by
    by_cases hn : n < c.NN
    · obtain ⟨ql, h⟩ := pk_order (show 2 ≤ c.kl ∧ c.kl ≤ 5 from ⟨hl, (O.l n hn).1.2⟩) (Nw.ok_l O hr hz hw (Nat.le_refl _) hn)
      exact ⟨ql, fun _ => h⟩
    · exact ⟨[], fun h => absurd h hn⟩
  exact ⟨q, fun n => (hc n).choose, hq, fun n hn => (hc n).choose_spec hn⟩
omit hw in
theorem Nw.ti (last : Option (Nat × Int)) : TI (c.pm σ0) (c.st σ0) last := fun n hn h0 => by
  rw [Nw.cw_zero O hr hz hn] at h0
  omega
theorem Nw.ah (hg : 2 ≤ c.kg) (hl : 2 ≤ c.kl) {m : Nat} (hm : σ0.ops + c.NN + 1 ≤ m) : Ah (c.pm σ0) (c.st σ0) m (fun _ => 0) := by
  obtain ⟨q, ql, Q⟩ := Nw.qs O hr hz hw hg hl
  refine ⟨none, q, ql, Nw.ci O hr hz hw hm, Nw.ti O hr hz none, Q, fun v _ => ⟨fun b => ?_, fun _ => rfl⟩⟩
  exfalso
  have h0 : pcG (c.st σ0) v = 0 := tak_zero O.g (Nw.room0 hr) _
  have h1 := (dr_pos (c.pm σ0).pg).1
  have h2 := b.1
  omega
end
end Go.Proofs.YtfnmggmgdmokcaaGreat.Co

/- Package cohort: how far a node is with the global lock. -/
namespace Go.Proofs.YtfnmggmgdmokcaaGreat.Cm
open Go.RowKit Go.Proofs.YtfnmggmgdmokcaaGreat.Tp Go.Proofs.YtfnmggmgdmokcaaGreat.Ara Go.Proofs.YtfnmggmgdmokcaaGreat.Lok Go.Proofs.YtfnmggmgdmokcaaGreat.Fl Go.Proofs.YtfnmggmgdmokcaaGreat.Co

def paL (N : Nat) (passed new : Nat → Nat) (v : Nat) : List Int := (List.range N).map fun u => ((if u < v then new u else passed u : Nat) : Int)
theorem paL_len (N : Nat) (f g : Nat → Nat) (v : Nat) : (paL N f g v).length = N := by simp [paL]
theorem paL_at {N : Nat} (f g : Nat → Nat) {v u : Nat} (h : u < N) : (paL N f g v).getD u 0 = ((if u < v then g u else f u : Nat) : Int) := Pa.map_getD h
theorem paL_succ {N : Nat} (f g : Nat → Nat) {v : Nat} : paL N f g (v + 1) = (paL N f g v).set v (g v : Int) := by
  refine List.ext_getElem (by simp [paL]) fun j h1 h2 => ?_
  rw [List.getElem_set]
  simp only [paL, List.getElem_map, List.getElem_range]
  by_cases e : v = j
  · subst e
    rw [if_pos (Nat.lt_succ_self v), if_pos rfl]
  · rw [if_neg e]
    by_cases h : j < v
    · rw [if_pos (by omega), if_pos h]
    · rw [if_neg (by omega), if_neg h]
theorem paL_keep {N : Nat} {f g : Nat → Nat} {v : Nat} (h : g v = f v) : paL N f g (v + 1) = paL N f g v := by
  unfold paL
  refine List.map_congr_left fun u _ => ?_
  by_cases e : u = v
  · subst e
    rw [if_pos (Nat.lt_succ_self u), if_neg (Nat.lt_irrefl u), h]
  · by_cases h2 : u < v
    · rw [if_pos (by omega), if_pos h2]
    · rw [if_neg (by omega), if_neg h2]
theorem paL_zero (N : Nat) (f g : Nat → Nat) : paL N f g 0 = (List.range N).map fun u => (f u : Int) := by
  unfold paL
  exact List.map_congr_left fun u _ => by rw [if_neg (Nat.not_lt_zero u)]
theorem paL_all (N : Nat) (f g : Nat → Nat) : paL N f g N = (List.range N).map fun u => (g u : Int) := by
  unfold paL
  exact List.map_congr_left fun u hu => by rw [if_pos (List.mem_range.1 hu)]
end Go.Proofs.YtfnmggmgdmokcaaGreat.Cm

