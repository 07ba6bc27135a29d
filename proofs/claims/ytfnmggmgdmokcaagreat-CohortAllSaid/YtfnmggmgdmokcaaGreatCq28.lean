/- Merged texts: Cm17, TpB, CmL, QuE, Lw, Co15. -/
import Derived.Test.YtfnmggmgdmokcaaGreatCq27
set_option linter.unusedVariables false
/- The law's awake. -/
namespace Go.Proofs.YtfnmggmgdmokcaaGreat.Cm
open Go.RowKit Go.Proofs.YtfnmggmgdmokcaaGreat.Tp Go.Proofs.YtfnmggmgdmokcaaGreat.Ara Go.Proofs.YtfnmggmgdmokcaaGreat.Lok Go.Proofs.YtfnmggmgdmokcaaGreat.Fl Go.Proofs.YtfnmggmgdmokcaaGreat.Co

def nwA : Nw := nwOf twoP twoT 2 4 1 1
def pmA : Pm := nwA.pm (Ar.fresh 99)
def xA0 : CS := nwA.st (Ar.fresh 99)
def xA1 : CS := askC pmA xA0 0
def xA2 : CS := (stepsC pmA 20 xA1 0).2
def xA3 : CS := askC pmA xA2 1
def xA4 : CS := (stepsC pmA 20 xA3 1).2
def xA5 : CS := askC pmA xA4 2
def xA6 : CS := (stepsC pmA 20 xA5 2).2
def xA7 : CS := leaveC xA6 0
def xA8 : CS := (stepsC pmA 20 xA7 0).2
def xA9 : CS := (stepsC pmA 9 xA8 2).2
def xA10 : CS := (stepsC pmA 9 xA9 1).2
def xA11 : CS := leaveC xA10 1
def xA12 : CS := (stepsC pmA 20 xA11 1).2
def xA13 : CS := (stepsC pmA 9 xA12 2).2
theorem a0 : turnB xA0.S 0 0 = true := by kernel_rfl
theorem a1 : (stepsC pmA 20 xA1 0).1 = true := by kernel_rfl
theorem a2 : cntV (spOf xA2.S 0) = 1 := by kernel_rfl
theorem a3 : turnB xA2.S 1 0 = true := by kernel_rfl
theorem a4 : (stepsC pmA 20 xA3 1).1 = false := by kernel_rfl
theorem a5 : turnB xA4.S 2 0 = true := by kernel_rfl
theorem a6 : (stepsC pmA 20 xA5 2).1 = false := by kernel_rfl
theorem a7 : pasB pmA xA6 1 = true := by kernel_rfl
theorem a8 : gloV pmA xA6 0 = 3 := by kernel_rfl
theorem a9 : gloV pmA xA6 1 = 2 := by kernel_rfl
theorem a10 : turnB xA6.S 0 10 = true := by kernel_rfl
theorem a11 : (stepsC pmA 20 xA7 0).1 = true := by kernel_rfl
theorem a12 : (stepsC pmA 9 xA8 2).1 = false := by kernel_rfl
theorem a13 : (stepsC pmA 9 xA9 1).1 = true := by kernel_rfl
theorem a14 : cntV (spOf xA10.S 1) = 2 := by kernel_rfl
theorem a15 : turnB xA10.S 1 10 = true := by kernel_rfl
theorem a16 : (stepsC pmA 20 xA11 1).1 = true := by kernel_rfl
theorem a17 : (stepsC pmA 9 xA12 2).1 = true := by kernel_rfl
theorem a18 : cntV (spOf xA13.S 2) = 1 := by kernel_rfl
theorem hckA : chk twoP twoT = 0 := by decide
theorem okA : nwA.Ok := nw_ok hckA (by decide) (by decide) (by decide) (by decide)
theorem roomA : nwA.tN (Ar.fresh 99).t nwA.NN ≤ (Ar.fresh 99).ws.length := by decide
theorem brA : Bud.right pmA.B = true := by decide
theorem djA : Dj pmA := Nw.dj okA roomA
theorem c0A : CI pmA xA0 3 := Nw.ci okA roomA (fun k _ => zeros_at 99 k) (by decide) (by decide)
theorem c1A : CI pmA xA1 4 := c0A.ask djA 0
theorem c2A : CI pmA xA2 24 := stepsC_ci djA 0 20 c1A
theorem c3A : CI pmA xA3 25 := c2A.ask djA 1
theorem c4A : CI pmA xA4 45 := stepsC_ci djA 1 20 c3A
theorem c5A : CI pmA xA5 46 := c4A.ask djA 2
theorem c6A : CI pmA xA6 66 := stepsC_ci djA 2 20 c5A
theorem c7A : CI pmA xA7 67 := c6A.leave djA 0
theorem c8A : CI pmA xA8 87 := stepsC_ci djA 0 20 c7A
theorem c9A : CI pmA xA9 96 := stepsC_ci djA 2 9 c8A
theorem c10A : CI pmA xA10 105 := stepsC_ci djA 1 9 c9A
theorem c11A : CI pmA xA11 106 := c10A.leave djA 1
theorem c12A : CI pmA xA12 126 := stepsC_ci djA 1 20 c11A
section
variable {W : World} {c : Cd}
abbrev KA (W0 W : World) (c : Cd) (x : CS) : Prop := CoAt W c pmA x ∧ Below W0.heap.size W0 W
theorem kA {W0 W W' : World} {x' : CS} (hc : ∀ b, b < W0.heap.size → c.col b = 0) (hb : Below W0.heap.size W0 W) (h : CoAt W' c pmA x') (k : Kp c.col W W') : KA W0 W' c x' := ⟨h, hb.trans (k.below hb.size hc)⟩
theorem kB {W0 W W' : World} {x : CS} (h : KA W0 W c x) (b : Below W.heap.size W W') : KA W0 W' c x := ⟨h.1.same b, h.2.trans (b.mono h.2.size)⟩
end
set_option maxRecDepth 100000 in
set_option maxHeartbeats 4000000 in
theorem awake_any (w : World) : Calls Tryz.prog 10 #[] w fun e w' => e = .returned (.bool true) ∧ Below w.heap.size w w' := by
  go_enter Tryz.func10, Tryz.ntmps10
  go_wp2_with fail
  refine (new_in 99 _).mono ?_
  rintro e w1 ⟨rfl, ha1, hz1, b1⟩
  have HA1 := Lib.hid ha1
  have HB1 := Lib.hid b1
  clear ha1 b1
  go_wp2_with fail
  refine (two_any _).mono ?_
  rintro e w2 ⟨A, B, rfl, s1, s2, b2⟩
  have hz2 := b2.size
  have HNW := Lib.hid (new_co twoP twoT A B 3 4 w2 hckA s1 s2 (w.heap.size + 1) w.heap.size (Ar.fresh 99) (HA1.out.step b2) (by omega) (by omega) 2 4 1 1 okA brA roomA (by decide) (by decide))
  have HB2 := Lib.hid (HB1.out.trans (b2.mono HB1.out.size))
  clear s1 s2 b2
  go_wp2_with fail
  refine HNW.out.mono ?_
  rintro e w3 ⟨cd, rfl, hK, ⟨g1, g2, g3⟩, hcol, hm3⟩
  have HCOL := Lib.hid (show ∀ b, b < w.heap.size → cd.col b = 0 from fun b hb => hcol b (by omega) (by omega) (by omega))
  have HGA := Lib.hid g1
  have HK := Lib.hid (show KA w w3 cd xA0 from ⟨hK, HB2.out.trans (hm3.below (by omega) (by simp))⟩)
  clear hK g1 g2 g3 hcol hm3 HNW HA1
  go_wp2_with fail
  refine (ask_co HK.out.1 djA c0A (by decide) 0).mono ?_
  rintro e w9 ⟨rfl, hk9, hp9⟩
  have HK9 := Lib.hid (kA HCOL.out HK.out.2 hk9 hp9)
  clear hk9 hp9 HK
  have HK := Lib.hid (show KA w w9 cd xA1 from HK9.out)
  clear HK9
  rw [a0]
  go_wp2_with fail
  refine (steps_co HK.out.1 djA c1A 20 (by decide) brA 0).mono ?_
  rintro e w9 ⟨rfl, hk9, hp9⟩
  have HK9 := Lib.hid (kA HCOL.out HK.out.2 hk9 hp9)
  clear hk9 hp9 HK
  have HK := Lib.hid (show KA w w9 cd xA2 from HK9.out)
  clear HK9
  rw [a1]
  go_wp2_with fail
  refine (count_co HK.out.1 0).mono ?_
  rintro e w9 ⟨rfl, hb9⟩
  have HK9 := Lib.hid (kB HK.out hb9)
  clear hb9 HK
  have HK := Lib.hid HK9.out
  clear HK9
  rw [a2]
  go_wp2_with fail
  refine (ask_co HK.out.1 djA c2A (by decide) 1).mono ?_
  rintro e w9 ⟨rfl, hk9, hp9⟩
  have HK9 := Lib.hid (kA HCOL.out HK.out.2 hk9 hp9)
  clear hk9 hp9 HK
  have HK := Lib.hid (show KA w w9 cd xA3 from HK9.out)
  clear HK9
  rw [a3]
  go_wp2_with fail
  refine (steps_co HK.out.1 djA c3A 20 (by decide) brA 1).mono ?_
  rintro e w9 ⟨rfl, hk9, hp9⟩
  have HK9 := Lib.hid (kA HCOL.out HK.out.2 hk9 hp9)
  clear hk9 hp9 HK
  have HK := Lib.hid (show KA w w9 cd xA4 from HK9.out)
  clear HK9
  rw [a4]
  go_wp2_with fail
  refine (ask_co HK.out.1 djA c4A (by decide) 2).mono ?_
  rintro e w9 ⟨rfl, hk9, hp9⟩
  have HK9 := Lib.hid (kA HCOL.out HK.out.2 hk9 hp9)
  clear hk9 hp9 HK
  have HK := Lib.hid (show KA w w9 cd xA5 from HK9.out)
  clear HK9
  rw [a5]
  go_wp2_with fail
  refine (steps_co HK.out.1 djA c5A 20 (by decide) brA 2).mono ?_
  rintro e w9 ⟨rfl, hk9, hp9⟩
  have HK9 := Lib.hid (kA HCOL.out HK.out.2 hk9 hp9)
  clear hk9 hp9 HK
  have HK := Lib.hid (show KA w w9 cd xA6 from HK9.out)
  clear HK9
  rw [a6]
  go_wp2_with fail
  refine (passed_co HK.out.1 djA 1).mono ?_
  rintro e w9 ⟨rfl, hb9⟩
  have HK9 := Lib.hid (kB HK.out hb9)
  clear hb9 HK
  have HK := Lib.hid HK9.out
  clear HK9
  rw [a7]
  go_wp2_with fail
  refine (global_co HK.out.1 0).mono ?_
  rintro e w9 ⟨rfl, hb9⟩
  have HK9 := Lib.hid (kB HK.out hb9)
  clear hb9 HK
  have HK := Lib.hid HK9.out
  clear HK9
  rw [a8]
  go_wp2_with fail
  refine (global_co HK.out.1 1).mono ?_
  rintro e w9 ⟨rfl, hb9⟩
  have HK9 := Lib.hid (kB HK.out hb9)
  clear hb9 HK
  have HK := Lib.hid HK9.out
  clear HK9
  rw [a9]
  go_wp2_with fail
  refine (leave_co HK.out.1 0).mono ?_
  rintro e w9 ⟨rfl, hk9, hp9⟩
  have HK9 := Lib.hid (kA HCOL.out HK.out.2 hk9 hp9)
  clear hk9 hp9 HK
  have HK := Lib.hid (show KA w w9 cd xA7 from HK9.out)
  clear HK9
  rw [a10]
  go_wp2_with fail
  refine (steps_co HK.out.1 djA c7A 20 (by decide) brA 0).mono ?_
  rintro e w9 ⟨rfl, hk9, hp9⟩
  have HK9 := Lib.hid (kA HCOL.out HK.out.2 hk9 hp9)
  clear hk9 hp9 HK
  have HK := Lib.hid (show KA w w9 cd xA8 from HK9.out)
  clear HK9
  rw [a11]
  go_wp2_with fail
  refine (steps_co HK.out.1 djA c8A 9 (by decide) brA 2).mono ?_
  rintro e w9 ⟨rfl, hk9, hp9⟩
  have HK9 := Lib.hid (kA HCOL.out HK.out.2 hk9 hp9)
  clear hk9 hp9 HK
  have HK := Lib.hid (show KA w w9 cd xA9 from HK9.out)
  clear HK9
  rw [a12]
  go_wp2_with fail
  refine (steps_co HK.out.1 djA c9A 9 (by decide) brA 1).mono ?_
  rintro e w9 ⟨rfl, hk9, hp9⟩
  have HK9 := Lib.hid (kA HCOL.out HK.out.2 hk9 hp9)
  clear hk9 hp9 HK
  have HK := Lib.hid (show KA w w9 cd xA10 from HK9.out)
  clear HK9
  rw [a13]
  go_wp2_with fail
  refine (count_co HK.out.1 1).mono ?_
  rintro e w9 ⟨rfl, hb9⟩
  have HK9 := Lib.hid (kB HK.out hb9)
  clear hb9 HK
  have HK := Lib.hid HK9.out
  clear HK9
  rw [a14]
  go_wp2_with fail
  refine (leave_co HK.out.1 1).mono ?_
  rintro e w9 ⟨rfl, hk9, hp9⟩
  have HK9 := Lib.hid (kA HCOL.out HK.out.2 hk9 hp9)
  clear hk9 hp9 HK
  have HK := Lib.hid (show KA w w9 cd xA11 from HK9.out)
  clear HK9
  rw [a15]
  go_wp2_with fail
  refine (steps_co HK.out.1 djA c11A 20 (by decide) brA 1).mono ?_
  rintro e w9 ⟨rfl, hk9, hp9⟩
  have HK9 := Lib.hid (kA HCOL.out HK.out.2 hk9 hp9)
  clear hk9 hp9 HK
  have HK := Lib.hid (show KA w w9 cd xA12 from HK9.out)
  clear HK9
  rw [a16]
  go_wp2_with fail
  refine (steps_co HK.out.1 djA c12A 9 (by decide) brA 2).mono ?_
  rintro e w9 ⟨rfl, hk9, hp9⟩
  have HK9 := Lib.hid (kA HCOL.out HK.out.2 hk9 hp9)
  clear hk9 hp9 HK
  have HK := Lib.hid (show KA w w9 cd xA13 from HK9.out)
  clear HK9
  rw [a17]
  go_wp2_with fail
  refine (count_co HK.out.1 2).mono ?_
  rintro e w9 ⟨rfl, hb9⟩
  have HK9 := Lib.hid (kB HK.out hb9)
  clear hb9 HK
  have HK := Lib.hid HK9.out
  clear HK9
  rw [a18]
  go_wp2_with fail
  refine (two_any _).mono ?_
  rintro e w10 ⟨A2, B2, rfl, s1, s2, b2⟩
  have HK9 := Lib.hid (kB HK.out b2)
  have HBD := Lib.hid (new_bad twoP twoT A2 B2 3 4 w10 hckA s1 s2 (some ⟨w.heap.size + 1, 0, none⟩) 2 2 1 (-1) (by decide))
  clear s1 s2 b2 HK
  go_wp2_with fail
  refine HBD.out.mono ?_
  rintro e w11 ⟨rfl, b3⟩
  have HK := Lib.hid (kB HK9.out b3)
  clear b3 HK9 HBD
  go_wp2_with fail
  refine (threads_co HK.out.1).mono ?_
  rintro e wx ⟨rfl, hwx⟩
  obtain rfl := hwx.symm
  go_wp2_with fail
  go_ret
  exact ⟨rfl, HK.out.2⟩
end Go.Proofs.YtfnmggmgdmokcaaGreat.Cm

/- A topology as an argument: how it is read. -/
namespace Go.Proofs.YtfnmggmgdmokcaaGreat.Tp
open Go.RowKit Go.ChangeShapes Go.WideShapes Go.Deep Go.Proofs.YtfnmggmgdmokcaaGreat.Li Go.Proofs.YtfnmggmgdmokcaaGreat.De Go.Proofs.YtfnmggmgdmokcaaGreat.Ara Go.Proofs.YtfnmggmgdmokcaaGreat.Ara
theorem arg_topo {H : Type} {enc : TypeId × Value → H} {w : World} {base : Nat} {spare : Nat → Bool} {held : Bool} {v : Value} {D : DataW H} {pl : List MemPlace} (hv : ∃ cs, v = .agg cs) (h : DataW.Trod enc Tryz.prog w base spare held 24 v D pl) :
    ∃ (A B : Option Addr) (c d : Nat) (p t : List Int), v = .agg #[.slice A p.length c, .slice B t.length d] ∧ p.length ≤ c ∧ c ≤ maxLen ∧ t.length ≤ d ∧ d ≤ maxLen ∧ Sl w w.heap.size A (p.flatMap decI) ∧ Sl w w.heap.size B (t.flatMap decI) := by
  obtain ⟨cs, rfl⟩ := hv
  obtain ⟨fuel, hf⟩ := h
  obtain ⟨hl, hfl⟩ := fields_of Tryz.underlying24 (by kernel_rfl) (by kernel_rfl) hf
  have hl2 : cs.toList.length = 2 := hl
  obtain ⟨x, y, e⟩ := list2 hl2
  have e' : (Value.agg cs).cells.toList = [x, y] := e
  rw [e'] at hfl
  obtain ⟨_, _, g0⟩ := hfl 0 _ x rfl rfl
  obtain ⟨_, _, g1⟩ := hfl 1 _ y rfl rfl
  obtain ⟨A, n, c, p, h1, rfl, h2, h3, _, h4⟩ := slice_of (k := 1) Tryz.underlying22 (by kernel_rfl) (fun _ => rfl) (reads_i64 Tryz.underlying3) g0
  obtain ⟨B, m, d, t, k1, rfl, k2, k3, _, k4⟩ := slice_of (k := 1) Tryz.underlying22 (by kernel_rfl) (fun _ => rfl) (reads_i64 Tryz.underlying3) g1
  injection h1 with h1
  injection k1 with k1
  subst h1 k1
  refine ⟨A, B, c, d, p, t, ?_, h2, h3, k2, k3, h4, k4⟩
  congr 1
  apply Array.ext'
  rw [e]
end Go.Proofs.YtfnmggmgdmokcaaGreat.Tp

/- What the laws' loops have of memory. -/
namespace Go.Proofs.YtfnmggmgdmokcaaGreat.Cm
open Go.RowKit Go.Proofs.YtfnmggmgdmokcaaGreat.Tp Go.Proofs.YtfnmggmgdmokcaaGreat.Ara Go.Proofs.YtfnmggmgdmokcaaGreat.Lok Go.Proofs.YtfnmggmgdmokcaaGreat.Fl Go.Proofs.YtfnmggmgdmokcaaGreat.Co

theorem reads_ac {H : Type} {enc : TypeId × Value → H} : Reads enc Tryz.prog 37 decAc (fun e => isI64 e.kind ∧ isI64 e.i) :=
  (reads_s2 (d0 := Value.int .i64) (d1 := Value.int .i64) Tryz.underlying37 (by kernel_rfl) (by kernel_rfl) (reads_i64 Tryz.underlying3) (reads_i64 Tryz.underlying3)).map
    (fun p => ⟨p.1, p.2⟩) (fun _ => rfl) (fun _ h => h)

theorem Bx_kp {w W W' : World} {x y : Value} {col : Nat → Nat} (h : Bx w W x y) (k : Kp col W W') (hc : ∀ q, q < w.heap.size + 1 → col q = 0) : Bx w W' x y := by
  obtain ⟨h1, h2, h3, h4⟩ := h
  exact ⟨h1.trans (k.below h1.size (fun b hb => hc b (by omega))), Nat.lt_of_lt_of_le h2 k.size, (k.cell (p := ⟨w.heap.size, 0, none⟩) h2 (hc _ (Nat.lt_succ_self _))).trans h3, (k.cell (p := ⟨w.heap.size, 1, none⟩) h2 (hc _ (Nat.lt_succ_self _))).trans h4⟩
structure LpW (w : World) (cd : Cd) (P : Pm) (x : CS) (m : Nat) (X Y : Value) (W : World) : Prop where
  k : CoAt W cd P x
  h : CI P x m
  b : Bx w W X Y
theorem LpW.same {w : World} {cd : Cd} {P : Pm} {x : CS} {m : Nat} {X Y : Value} {W W' : World} (h : LpW w cd P x m X Y W) (b : Below W.heap.size W W') : LpW w cd P x m X Y W' := ⟨h.k.same b, h.h, h.b.step b⟩
theorem LpW.act {w : World} {cd : Cd} {P : Pm} {x : CS} {m : Nat} {X Y : Value} {W W' : World} (h : LpW w cd P x m X Y W) (D : Dj P) (hc : ∀ q, q < w.heap.size + 1 → cd.col q = 0) (kd i : Int) (k : CoAt W' cd P (doC P x kd i)) (kp : Kp cd.col W W') : LpW w cd P (doC P x kd i) (m + 1) X Y W' := ⟨k, h.h.act D kd i, Bx_kp h.b kp hc⟩
theorem list3 {α : Type} {l : List α} (h : l.length = 3) : ∃ a b c, l = [a, b, c] := by
  match l, h with
  | [a, b, c], _ => exact ⟨a, b, c, rfl⟩
end Go.Proofs.YtfnmggmgdmokcaaGreat.Cm

/- A lock that keeps order has a queue: the plain law. -/
namespace Go.Proofs.YtfnmggmgdmokcaaGreat.Fl
open Go.RowKit Go.Proofs.YtfnmggmgdmokcaaGreat.Ara Go.Proofs.YtfnmggmgdmokcaaGreat.Lok

theorem OkK.queue {p : PK} {σ : Ar} {sp : List Sp} {n m : Nat} (h : OkK p σ sp n m) : (∃ P, p = .tas P) ∨ ∃ q, QuK p σ sp q := by
  cases p with
  | tas P => exact .inl ⟨P, rfl⟩
  | tic P =>
    right
    obtain ⟨S, T, hi, _⟩ := Tk.OkP.inv h
    have hle := hi.le
    have hc : ∀ k : Nat, ∃ i, k < T - S → Tk.inq (spOf sp i) ∧ (spOf sp i).a = (S : Int) + k := fun k => by
      by_cases hk : k < T - S
      · obtain ⟨i, h1, h2⟩ := hi.all ((S : Int) + k) (by omega) (by omega)
        exact ⟨i, fun _ => ⟨h1, h2⟩⟩
      · exact ⟨0, fun h => absurd h hk⟩
    refine ⟨(List.range (T - S)).map fun k => (hc k).choose, S, T, hi, by simp; omega, fun k hk => ?_⟩
    rw [List.getElem_map, List.getElem_range]
    exact (hc k).choose_spec (by simpa using hk)
  | par P =>
    right
    obtain ⟨S, T, hi, _⟩ := Pt.OkP.inv h
    have hle := hi.le
    have hc : ∀ k : Nat, ∃ i, k < T - S → Pt.inq (spOf sp i) ∧ (spOf sp i).a = (S : Int) + k := fun k => by
      by_cases hk : k < T - S
      · obtain ⟨i, h1, h2⟩ := hi.all ((S : Int) + k) (by omega) (by omega)
        exact ⟨i, fun _ => ⟨h1, h2⟩⟩
      · exact ⟨0, fun h => absurd h hk⟩
    refine ⟨(List.range (T - S)).map fun k => (hc k).choose, S, T, hi, by simp; omega, fun k hk => ?_⟩
    rw [List.getElem_map, List.getElem_range]
    exact (hc k).choose_spec (by simpa using hk)
  | mcs P => obtain ⟨q, hi⟩ := Mc.OkP.inv h; exact .inr ⟨q, hi⟩
  | clh P => obtain ⟨z, q, hi⟩ := Cl.OkP.inv h; exact .inr ⟨q, z, hi⟩
end Go.Proofs.YtfnmggmgdmokcaaGreat.Fl

/- What is left tO do in a lock of any kind: no step makes it more, and there is always a slot whose step makes it less: the plain law. -/
namespace Go.Proofs.YtfnmggmgdmokcaaGreat.Fl
open Go.RowKit Go.Proofs.YtfnmggmgdmokcaaGreat.Ara Go.Proofs.YtfnmggmgdmokcaaGreat.Lok

def wq (pc : Int) : Nat := if pc ≤ 0 then 0 else if pc < 10 then (11 - pc).toNat else (15 - pc).toNat
def wpc (p : PK) (pc : Int) : Nat :=
  match p with
  | .tas P => if pc = 1 ∨ pc = 2 then P.most.toNat + 3 else if pc = 10 then P.most.toNat + 2 else if pc = 11 then P.most.toNat + 1 else 0
  | _ => wq pc
def hldT (sp : List Sp) : Bool := (List.range sp.length).any fun k => decide ((spOf sp (k : Int)).pc = 10) || decide ((spOf sp (k : Int)).pc = 11)
def comB (sp : List Sp) (k : Nat) : Bool := decide (0 < (spOf sp (k : Int)).pc) && decide ((spOf sp (k : Int)).pc < 10)
def fstT (sp : List Sp) : Option Nat := (List.range sp.length).find? (comB sp)
def stB (s : Sp) : Nat := if s.pc = 2 then s.b.toNat else 0
def exT (sp : List Sp) : Nat := if hldT sp then 0 else match fstT sp with | none => 0 | some k => stB (spOf sp (k : Int))
def exK (p : PK) (sp : List Sp) : Nat := match p with | .tas _ => exT sp | _ => 0
def wK (p : PK) (sp : List Sp) : Nat := wts (wpc p) sp + exK p sp
def rdT (sp : List Sp) (i : Int) : Prop := Ta.holds (spOf sp i) ∨ ((∀ j, ¬ Ta.holds (spOf sp j)) ∧ ∃ k : Nat, i = k ∧ fstT sp = some k)
def rdQ (p : PK) (sp : List Sp) (q : List Int) (i : Int) : Prop :=
  (spOf sp i).pc ≠ 0 ∧ (dr p < (spOf sp i).pc → (spOf sp i).pc < 10 → q.head? = some i ∨ (dr p = 3 ∧ (spOf sp i).pc = 4)) ∧ ((spOf sp i).pc = 13 → ¬ ∃ j t, q = i :: j :: t ∧ (spOf sp j).pc = 4)
def rdK (p : PK) (σ : Ar) (sp : List Sp) (i : Int) : Prop :=
  match p with
  | .tas _ => rdT sp i
  | p => ∃ q, QuK p σ sp q ∧ rdQ p sp q i
def limT (P : Ta.Par) (sp : List Sp) : Prop := ∀ i, ((spOf sp i).pc = 1 ∨ (spOf sp i).pc = 2 → (spOf sp i).a ≤ P.most) ∧ ((spOf sp i).pc = 2 → (spOf sp i).b ≤ P.most)
def limK (p : PK) (sp : List Sp) : Prop := match p with | .tas P => P.most ≤ 4 ∧ 1 ≤ P.most ∧ limT P sp | _ => True

theorem hld_iff {sp : List Sp} : hldT sp = true ↔ ∃ i, Ta.holds (spOf sp i) := by
  unfold hldT
  rw [List.any_eq_true]
  constructor
  · rintro ⟨k, hk, h⟩
    simp only [Bool.or_eq_true, decide_eq_true_eq] at h
    exact ⟨k, h⟩
  · rintro ⟨i, h⟩
    obtain ⟨i0, i1⟩ := Ta.holds_range h
    obtain ⟨k, rfl⟩ := Int.eq_ofNat_of_zero_le i0
    refine ⟨k, List.mem_range.2 (by omega), ?_⟩
    simp only [Bool.or_eq_true, decide_eq_true_eq]
    exact h
theorem hld_no {sp : List Sp} : hldT sp = false ↔ ∀ i, ¬ Ta.holds (spOf sp i) := by
  rw [← Bool.not_eq_true, hld_iff]
  exact ⟨fun h i hi => h ⟨i, hi⟩, fun h ⟨i, hi⟩ => h i hi⟩
theorem fst_iff {sp : List Sp} {k : Nat} : fstT sp = some k ↔ k < sp.length ∧ comB sp k = true ∧ ∀ j, j < k → comB sp j = false := by
  unfold fstT
  rw [List.find?_range_eq_some]
  simp only [List.mem_range, Bool.not_eq_true']
  exact ⟨fun ⟨a, b, c⟩ => ⟨b, a, c⟩, fun ⟨a, b, c⟩ => ⟨b, a, c⟩⟩
theorem fst_none {sp : List Sp} : fstT sp = none ↔ ∀ k, k < sp.length → comB sp k = false := by
  unfold fstT
  rw [List.find?_eq_none]
  simp only [List.mem_range, Bool.not_eq_true]
theorem fst_congr {sp sp' : List Sp} (hl : sp'.length = sp.length) (h : ∀ k, comB sp' k = comB sp k) : fstT sp' = fstT sp := by
  cases e : fstT sp with
  | none => rw [fst_none] at e ⊢; intro k hk; rw [h]; exact e k (by omega)
  | some k => rw [fst_iff] at e ⊢; exact ⟨by omega, by rw [h]; exact e.2.1, fun j hj => by rw [h]; exact e.2.2 j hj⟩
theorem ex_held {sp : List Sp} {i : Int} (h : Ta.holds (spOf sp i)) : exT sp = 0 := by unfold exT; rw [if_pos (hld_iff.2 ⟨i, h⟩)]
theorem ex_free {sp : List Sp} (h : ∀ i, ¬ Ta.holds (spOf sp i)) : exT sp = match fstT sp with | none => 0 | some k => stB (spOf sp (k : Int)) := by
  unfold exT
  rw [if_neg (by rw [hld_no.2 h]; decide)]
theorem ex_le {P : Ta.Par} {sp : List Sp} (h : limT P sp) : exT sp ≤ P.most.toNat := by
  unfold exT
  split
  · omega
  · split
    · omega
    · rename_i k _
      unfold stB
      split
      · rename_i h2
        have := (h k).2 h2
        omega
      · omega
theorem com_iff {sp : List Sp} {k : Nat} : comB sp k = true ↔ 0 < (spOf sp (k : Int)).pc ∧ (spOf sp (k : Int)).pc < 10 := by
  unfold comB
  rw [Bool.and_eq_true, decide_eq_true_eq, decide_eq_true_eq]
theorem com_same {sp sp' : List Sp} {k : Nat} (h : (0 < (spOf sp (k : Int)).pc ∧ (spOf sp (k : Int)).pc < 10) ↔ (0 < (spOf sp' (k : Int)).pc ∧ (spOf sp' (k : Int)).pc < 10)) : comB sp' k = comB sp k := by
  cases e : comB sp k with
  | true => rw [com_iff] at e ⊢; exact h.1 e
  | false =>
    rw [← Bool.not_eq_true, com_iff] at e ⊢
    exact fun h2 => e (h.2 h2)
theorem wts_at (w : Int → Nat) {sp : List Sp} {i : Int} (i0 : 0 ≤ i) (i1 : i < sp.length) {sp' : List Sp} (hl : sp'.length = sp.length) (ho : ∀ j, j ≠ i → spOf sp' j = spOf sp j) : wts w sp' + w (spOf sp i).pc = wts w sp + w (spOf sp' i).pc := by
  have : sp' = sp.set i.toNat (spOf sp' i) := by
    obtain ⟨k, rfl⟩ := Int.eq_ofNat_of_zero_le i0
    rw [Int.toNat_natCast]
    refine List.ext_getElem (by simp [hl]) fun j h1 h2 => ?_
    rw [List.getElem_set]
    split
    · rename_i e
      subst e
      rw [spOf_in (by omega)]
    · rename_i e
      have := ho j (by omega)
      rw [spOf_in (by omega), spOf_in (by omega)] at this
      exact this
  have h := wts_spOf w sp i i0 i1 (spOf sp' i)
  rw [← this] at h
  exact h
theorem step_len (p : PK) (σ : Ar) (sp : List Sp) (kd i : Int) : (doK p σ sp kd i).2.2.length = sp.length := do_len p σ sp kd i
theorem tlim {P : Ta.Par} {σ : Ar} {sp : List Sp} (m1 : 1 ≤ P.most) (h : limT P sp) (kd i : Int) : limT P (doK (.tas P) σ sp kd i).2.2 := by
  have key : ∀ s' : Sp, ((s'.pc = 1 ∨ s'.pc = 2 → s'.a ≤ P.most) ∧ (s'.pc = 2 → s'.b ≤ P.most)) → 0 ≤ i → i < sp.length → limT P (sp.set i.toNat s') := by
    intro s' hs i0 i1 j
    rw [spOf_set i0 i1]
    split
    · exact hs
    · exact h j
  show limT P (Ta.doP P σ sp kd i).2.2
  unfold Ta.doP
  split
  · unfold Ta.stepP
    have hi := h i
    split
    · rename_i e
      obtain ⟨i0, i1⟩ := spOf_range (sp := sp) (i := i) (by omega)
      refine key _ ?_ i0 i1
      split
      · exact ⟨fun h => by simp at h, fun h => by simp at h⟩
      · exact ⟨fun _ => Int.min_le_right _ _, fun _ => hi.1 (.inl e)⟩
    · split
      · rename_i e
        obtain ⟨i0, i1⟩ := spOf_range (sp := sp) (i := i) (by omega)
        refine key _ ⟨fun _ => hi.1 (.inr e), fun _ => ?_⟩ i0 i1
        have := hi.2 e
        show (spOf sp i).b - 1 ≤ P.most
        omega
      · split
        · rename_i e
          obtain ⟨i0, i1⟩ := spOf_range (sp := sp) (i := i) (by omega)
          exact key _ ⟨fun h => by simp at h, fun h => by simp at h⟩ i0 i1
        · exact h
  · split
    · show limT P (Ta.askS sp i)
      unfold Ta.askS
      split
      · rename_i hb
        obtain ⟨⟨i0, i1⟩, _⟩ := turn_true hb
        exact key _ ⟨fun _ => m1, fun h => by simp at h⟩ i0 i1
      · exact h
    · split
      · show limT P (turnS sp i 10 11)
        intro j
        rw [spOf_turnS]
        split
        · exact ⟨fun h => by simp at h, fun h => by simp at h⟩
        · exact h j
      · split <;> exact h
theorem lim_act {p : PK} {σ : Ar} {sp : List Sp} (h : limK p sp) (kd i : Int) : limK p (doK p σ sp kd i).2.2 := by
  cases p with
  | tas P => exact ⟨h.1, h.2.1, tlim h.2.1 h.2.2 kd i⟩
  | _ => trivial

def cost (p : PK) (sp : List Sp) (i : Int) : Nat := wpc p (spOf sp i).pc + exK p sp
theorem wt_eq (P : Ta.Par) (pc : Int) : wpc (.tas P) pc = if pc = 1 ∨ pc = 2 then P.most.toNat + 3 else if pc = 10 then P.most.toNat + 2 else if pc = 11 then P.most.toNat + 1 else 0 := rfl
theorem wt1 (P : Ta.Par) : wpc (.tas P) 1 = P.most.toNat + 3 := by rw [wt_eq, if_pos (.inl rfl)]
theorem wt2 (P : Ta.Par) : wpc (.tas P) 2 = P.most.toNat + 3 := by rw [wt_eq, if_pos (.inr rfl)]
theorem wt10 (P : Ta.Par) : wpc (.tas P) 10 = P.most.toNat + 2 := by rw [wt_eq, if_neg (by decide), if_pos rfl]
theorem wt11 (P : Ta.Par) : wpc (.tas P) 11 = P.most.toNat + 1 := by rw [wt_eq, if_neg (by decide), if_neg (by decide), if_pos rfl]
theorem wt0 (P : Ta.Par) : wpc (.tas P) 0 = 0 := by rw [wt_eq, if_neg (by decide), if_neg (by decide), if_neg (by decide)]
theorem wpc_le {p : PK} {sp : List Sp} (h : limK p sp) (pc : Int) : wpc p pc ≤ 10 := by
  cases p with
  | tas P =>
    have h1 : P.most ≤ 4 := h.1
    show (if pc = 1 ∨ pc = 2 then P.most.toNat + 3 else if pc = 10 then P.most.toNat + 2 else if pc = 11 then P.most.toNat + 1 else 0) ≤ 10
    repeat' split
    all_goals omega
  | _ =>
    show wq pc ≤ 10
    unfold wq
    repeat' split
    all_goals omega
theorem exK_le {p : PK} {sp : List Sp} (h : limK p sp) : exK p sp ≤ 4 := by
  cases p with
  | tas P =>
    have h1 : P.most ≤ 4 := h.1
    have := ex_le h.2.2
    show exT sp ≤ 4
    omega
  | _ => exact Nat.zero_le _
section
variable {P : Ta.Par} {σ : Ar} {sp : List Sp} (h : Ta.Inv P σ sp) (hL : limT P sp)
include h
theorem tas_try (hf : ∀ j, ¬ Ta.holds (spOf sp j)) : Ta.tryB P σ = true := by
  unfold Ta.tryB
  rw [h.hw, h.free hf]
  rfl
theorem tas_fail {j : Int} (hj : Ta.holds (spOf sp j)) : Ta.tryB P σ = false := by
  unfold Ta.tryB
  have := Ta.holds_range hj
  have h2 := h.hold j hj
  rw [h2, Bool.and_eq_false_iff]
  right
  simp
  omega
include hL
theorem tas_step (i : Int) : cost (.tas P) (doK (.tas P) σ sp 0 i).2.2 i ≤ cost (.tas P) sp i ∧ (rdT sp i → (spOf sp i).pc ≠ 10 → cost (.tas P) (doK (.tas P) σ sp 0 i).2.2 i < cost (.tas P) sp i) ∧
    (∀ s, s ≠ i → rdT sp s → cost (.tas P) (doK (.tas P) σ sp 0 i).2.2 i < cost (.tas P) sp i ∨ rdT (doK (.tas P) σ sp 0 i).2.2 s) := by
  have hL' := tlim (σ := σ) h.m1 hL 0 i
  have ho := fun j (hj : j ≠ i) => do_other (.tas P) σ sp 0 i j hj
  have hlen := do_len (.tas P) σ sp 0 i
  by_cases h0 : (spOf sp i).pc = 0 ∨ (spOf sp i).pc = 10
  · rw [do_rest (.tas P) σ sp i h0]
    refine ⟨Nat.le_refl _, fun hr hn => ?_, fun s _ hs => .inr hs⟩
    exfalso
    rcases hr with hr | ⟨_, k, rfl, hk⟩
    · unfold Ta.holds at hr; omega
    · have := com_iff.1 (fst_iff.1 hk).2.1
      omega
  have e2 : ∀ sp, exK (.tas P) sp = exT sp := fun _ => rfl
  obtain ⟨i0, i1⟩ := spOf_range (sp := sp) (i := i) (by omega)
  have hd : (doK (.tas P) σ sp 0 i).2.2 = (Ta.stepP P σ sp i).2.2 := rfl
  rw [hd] at hL' ho hlen ⊢
  have hp := h.pcs i
  unfold cost
  rw [e2, e2]
  rcases (show (spOf sp i).pc = 1 ∨ (spOf sp i).pc = 2 ∨ (spOf sp i).pc = 11 by unfold Ta.holds at hp; omega) with e | e | e
  · by_cases hh : ∃ j, Ta.holds (spOf sp j)
    · obtain ⟨j, hj⟩ := hh
      have hji : j ≠ i := fun e9 => by rw [e9] at hj; unfold Ta.holds at hj; omega
      have hs : spOf (Ta.stepP P σ sp i).2.2 i = ⟨2, min (2 * (spOf sp i).a) P.most, (spOf sp i).a, (spOf sp i).c⟩ := by
        unfold Ta.stepP
        rw [if_pos e, tas_fail h hj]
        show spOf (sp.set i.toNat _) i = _
        rw [spOf_set i0 i1, if_pos rfl]
        rfl
      have hj' : Ta.holds (spOf (Ta.stepP P σ sp i).2.2 j) := by rw [ho j hji]; exact hj
      rw [ex_held hj, ex_held hj', hs, e, wt2, wt1]
      refine ⟨Nat.le_refl _, fun hr _ => ?_, fun s hs hr => .inr ?_⟩
      · exfalso
        rcases hr with hr | ⟨hr, _⟩
        · unfold Ta.holds at hr; omega
        · exact hr j hj
      · rcases hr with hr | ⟨hr, _⟩
        · exact .inl (by rw [ho s hs]; exact hr)
        · exact absurd hj (hr j)
    · have hf : ∀ j, ¬ Ta.holds (spOf sp j) := fun j hj => hh ⟨j, hj⟩
      have hs : (spOf (Ta.stepP P σ sp i).2.2 i).pc = 10 := by
        unfold Ta.stepP
        rw [if_pos e, tas_try h hf]
        show (spOf (sp.set i.toNat _) i).pc = _
        rw [spOf_set i0 i1, if_pos rfl]
        rfl
      rw [ex_held (i := i) (.inl hs), hs, e, wt10, wt1]
      refine ⟨by omega, fun _ _ => by omega, fun _ _ _ => .inl (by omega)⟩
  · have hb := h.w2 i e
    have hs : spOf (Ta.stepP P σ sp i).2.2 i = ⟨if (spOf sp i).b - 1 = 0 then 1 else 2, (spOf sp i).a, (spOf sp i).b - 1, (spOf sp i).c⟩ := by
      unfold Ta.stepP
      rw [if_neg (by omega), if_pos e]
      show spOf (sp.set i.toNat _) i = _
      rw [spOf_set i0 i1, if_pos rfl]
    have hx : (spOf (Ta.stepP P σ sp i).2.2 i).pc = 1 ∨ (spOf (Ta.stepP P σ sp i).2.2 i).pc = 2 := by
      rw [hs]
      show (if (spOf sp i).b - 1 = 0 then (1 : Int) else 2) = 1 ∨ (if (spOf sp i).b - 1 = 0 then (1 : Int) else 2) = 2
      split <;> simp
    rw [wt_eq, wt_eq, if_pos hx, if_pos (.inr e)]
    by_cases hh : ∃ j, Ta.holds (spOf sp j)
    · obtain ⟨j, hj⟩ := hh
      have hji : j ≠ i := fun e9 => by rw [e9] at hj; unfold Ta.holds at hj; omega
      have hj' : Ta.holds (spOf (Ta.stepP P σ sp i).2.2 j) := by rw [ho j hji]; exact hj
      rw [ex_held hj, ex_held hj']
      refine ⟨Nat.le_refl _, fun hr _ => ?_, fun s hs hr => .inr ?_⟩
      · exfalso
        rcases hr with hr | ⟨hr, _⟩
        · unfold Ta.holds at hr; omega
        · exact hr j hj
      · rcases hr with hr | ⟨hr, _⟩
        · exact .inl (by rw [ho s hs]; exact hr)
        · exact absurd hj (hr j)
    · have hf : ∀ j, ¬ Ta.holds (spOf sp j) := fun j hj => hh ⟨j, hj⟩
      have hf' : ∀ j, ¬ Ta.holds (spOf (Ta.stepP P σ sp i).2.2 j) := fun j hj => by
        by_cases ej : j = i
        · rw [ej] at hj; unfold Ta.holds at hj; omega
        · rw [ho j ej] at hj; exact hf j hj
      have hfst : fstT (Ta.stepP P σ sp i).2.2 = fstT sp := fst_congr hlen fun k => com_same (by
        by_cases ek : (k : Int) = i
        · rw [ek]; omega
        · rw [ho k ek])
      rw [ex_free hf, ex_free hf', hfst]
      cases hk : fstT sp with
      | none =>
        have := fst_none.1 hk i.toNat (by omega)
        rw [← Bool.not_eq_true, com_iff] at this
        rw [Int.toNat_of_nonneg i0] at this
        omega
      | some k =>
        by_cases ek : (k : Int) = i
        · have hlt : stB (spOf (Ta.stepP P σ sp i).2.2 (k : Int)) < stB (spOf sp (k : Int)) := by
            rw [ek, hs]
            unfold stB
            rw [if_pos e]
            show (if (if (spOf sp i).b - 1 = 0 then (1 : Int) else 2) = 2 then ((spOf sp i).b - 1).toNat else 0) < _
            by_cases z : (spOf sp i).b - 1 = 0
            · rw [if_pos z, if_neg (by decide)]; omega
            · rw [if_neg z, if_pos rfl]; omega
          exact ⟨by show _ + stB _ ≤ _ + stB _; omega, fun _ _ => by show _ + stB _ < _ + stB _; omega, fun s hs hr => .inl (by show _ + stB _ < _ + stB _; omega)⟩
        · have heq : stB (spOf (Ta.stepP P σ sp i).2.2 (k : Int)) = stB (spOf sp (k : Int)) := by rw [ho _ ek]
          refine ⟨by show _ + stB _ ≤ _ + stB _; omega, fun hr _ => ?_, fun s hs hr => .inr ?_⟩
          · exfalso
            rcases hr with hr | ⟨_, k', e9, hk'⟩
            · unfold Ta.holds at hr; omega
            · rw [hk] at hk'
              injection hk' with hk'
              omega
          · rcases hr with hr | ⟨_, k', e9, hk'⟩
            · exact absurd hr (hf s)
            · exact .inr ⟨hf', k', e9, by rw [hfst]; exact hk'⟩
  · have hs : (spOf (Ta.stepP P σ sp i).2.2 i).pc = 0 := by
      unfold Ta.stepP
      rw [if_neg (by omega), if_neg (by omega), if_pos e]
      show (spOf (sp.set i.toNat _) i).pc = _
      rw [spOf_set i0 i1, if_pos rfl]
    have hx := ex_le hL'
    rw [hs, e, wt0, wt11]
    have hm := h.m1
    refine ⟨by omega, fun _ _ => by omega, fun _ _ _ => .inl (by omega)⟩
end
section
variable {p : PK} {σ : Ar} {sp : List Sp} {q : List Int} (h : QuK p σ sp q)
include h
theorem QuK.pcb (i : Int) : 0 ≤ (spOf sp i).pc ∧ ((spOf sp i).pc < 6 ∨ 10 ≤ (spOf sp i).pc) ∧ (spOf sp i).pc < 15 ∧ ((spOf sp i).pc = 4 ∨ (spOf sp i).pc = 13 → dr p = 3) ∧ (dr p = 1 ∨ dr p = 2 ∨ dr p = 3) := by
  cases p with
  | tas P => exact absurd h id
  | tic P => have h : Tkq P σ sp q := h; have := h.pcs i; exact ⟨by omega, by omega, by omega, fun h2 => by omega, .inl rfl⟩
  | par P => have h : Ptq P σ sp q := h; have := h.pcs i; exact ⟨by omega, by omega, by omega, fun h2 => by omega, .inl rfl⟩
  | mcs P => have h : Mc.Inv P σ sp q := h; have := mcpcs h i; exact ⟨by omega, by omega, by omega, fun _ => rfl, .inr (.inr rfl)⟩
  | clh P => obtain ⟨z, h⟩ := h; have := clpcs h i; exact ⟨by omega, by omega, by omega, fun h2 => by omega, .inr (.inl rfl)⟩
theorem QuK.costs (sp' : List Sp) (i : Int) : cost p sp' i = wq (spOf sp' i).pc := by
  cases p with
  | tas P => exact absurd h id
  | _ => rfl
theorem QuK.wstep (i : Int) : (wq (spOf (doK p σ sp 0 i).2.2 i).pc < wq (spOf sp i).pc ∨ ((spOf (doK p σ sp 0 i).2.2 i).pc = (spOf sp i).pc ∧ QuK p (doK p σ sp 0 i).2.1 (doK p σ sp 0 i).2.2 q)) ∧
    (rdQ p sp q i → (spOf sp i).pc ≠ 10 → wq (spOf (doK p σ sp 0 i).2.2 i).pc < wq (spOf sp i).pc) := by
  have n := h.next i
  have b := h.pcb i
  have t := h.step i
  unfold QTurn at t
  have b' : 0 ≤ (spOf (doK p σ sp 0 i).2.2 i).pc ∧ ((spOf (doK p σ sp 0 i).2.2 i).pc < 6 ∨ 10 ≤ (spOf (doK p σ sp 0 i).2.2 i).pc) ∧ (spOf (doK p σ sp 0 i).2.2 i).pc < 15 := by
    rcases t with ⟨_, hq⟩ | ⟨_, _, t1, _, hq⟩ | ⟨_, _, hq⟩ <;> exact ⟨(hq.pcb i).1, (hq.pcb i).2.1, (hq.pcb i).2.2.1⟩
  unfold Nxt at n
  unfold rdQ
  obtain ⟨n0, n1, n2, n3, n4, n5⟩ := n
  obtain ⟨b0, b1, b2, b3, b4⟩ := b
  have hw : ∀ a c : Int, 0 ≤ a → (a < 6 ∨ 10 ≤ a) → a < 15 → 0 ≤ c → (c < 6 ∨ 10 ≤ c) → c < 15 → ((0 < a ∧ a < c ∧ (c < 10 ∨ 10 ≤ a)) ∨ (0 < a ∧ a < 10 ∧ c = 10) ∨ (0 < a ∧ c = 0)) → wq c < wq a := by
    intro a c a0 a1 a2 c0 c1 c2 h
    unfold wq
    repeat' split
    all_goals omega
  have hlt := hw (spOf sp i).pc (spOf (doK p σ sp 0 i).2.2 i).pc b0 b1 b2 b'.1 b'.2.1 b'.2.2
  clear hw
  have hq3 : (spOf sp i).pc = (spOf (doK p σ sp 0 i).2.2 i).pc → QuK p (doK p σ sp 0 i).2.1 (doK p σ sp 0 i).2.2 q := by
    intro e
    rcases t with ⟨⟨a0, a1⟩, hq⟩ | ⟨a0, a1, t1, _, hq⟩ | ⟨_, _, hq⟩
    · rcases n3 a0 a1 with ⟨_, n3, _⟩ | n3 <;> omega
    · rcases n5 a0 with n5 | n5
      · omega
      · rw [a1] at n5; exact absurd n5.1 (by decide)
    · exact hq
  clear t
  generalize (spOf (doK p σ sp 0 i).2.2 i).pc = c at *
  generalize (doK p σ sp 0 i).1 = b9 at *
  by_cases z : (spOf sp i).pc = 0
  · refine ⟨.inr ⟨(n0 z).1.trans z.symm, hq3 (by rw [(n0 z).1, z])⟩, fun hr => absurd z hr.1⟩
  by_cases z1 : (spOf sp i).pc = 10
  · exact ⟨.inr ⟨(n1 z1).1.trans z1.symm, hq3 (by rw [(n1 z1).1, z1])⟩, fun _ hn => absurd z1 hn⟩
  by_cases z2 : (spOf sp i).pc < dr p
  · have := (n2 (by omega) z2).1
    have hl := hlt (by omega)
    exact ⟨.inl hl, fun _ _ => hl⟩
  by_cases z3 : (spOf sp i).pc = dr p
  · have hl := hlt (by rcases n3 (by omega) z3 with ⟨_, n3, _⟩ | n3 <;> omega)
    exact ⟨.inl hl, fun _ _ => hl⟩
  by_cases z4 : (spOf sp i).pc < 10
  · obtain ⟨n6, n7⟩ := n4 (by omega) z4
    by_cases hf : q.head? = some i
    · have := (n6 hf).1
      have hl := hlt (by omega)
      exact ⟨.inl hl, fun _ _ => hl⟩
    · obtain ⟨_, n8 | n8⟩ := n7 hf
      · refine ⟨.inr ⟨n8.1, hq3 n8.1.symm⟩, fun hr _ => ?_⟩
        rcases hr.2.1 (by omega) z4 with h1 | h1
        · exact absurd h1 hf
        · exact absurd h1 n8.2
      · have hl := hlt (by omega)
        exact ⟨.inl hl, fun _ _ => hl⟩
  · rcases n5 (by omega) with n6 | ⟨_, n6, n7, n8⟩
    · have hl := hlt (by omega)
      exact ⟨.inl hl, fun _ _ => hl⟩
    · rcases n8 with n8 | n8 | n8 | n8 | ⟨n8, n9, n10⟩
      · have hl := hlt (by omega)
        exact ⟨.inl hl, fun _ _ => hl⟩
      · have hl := hlt (by omega)
        exact ⟨.inl hl, fun _ _ => hl⟩
      · have hl := hlt (by omega)
        exact ⟨.inl hl, fun _ _ => hl⟩
      · have hl := hlt (by omega)
        exact ⟨.inl hl, fun _ _ => hl⟩
      · exact ⟨.inr ⟨by omega, hq3 (by omega)⟩, fun hr _ => absurd n10 (hr.2.2 n8)⟩
theorem QuK.ex_rd {s : Int} (hs : (spOf sp s).pc ≠ 0) : ∃ i, (spOf sp i).pc ≠ 0 ∧ rdQ p sp q i := by
  have hm := h.mem
  have hb := h.pcb
  cases q with
  | nil =>
    have : ¬ dr p < (spOf sp s).pc := fun h2 => by have := (hm s).2 h2; simp at this
    have b := hb s
    exact ⟨s, hs, hs, fun h1 => absurd h1 this, fun h1 => by omega⟩
  | cons i t =>
    have hi := (hm i).1 (by simp)
    have bi := hb i
    by_cases hw : (spOf sp i).pc = 13 ∧ ∃ j t', i :: t = i :: j :: t' ∧ (spOf sp j).pc = 4
    · obtain ⟨h13, j, t', e, hj⟩ := hw
      exact ⟨j, by omega, by omega, fun _ _ => .inr ⟨(hb j).2.2.2.1 (.inl hj), hj⟩, fun h1 => by omega⟩
    · exact ⟨i, by omega, by omega, fun _ _ => .inl rfl, fun h1 h2 => hw ⟨h1, h2⟩⟩
end
theorem rdK_q {p : PK} {σ : Ar} {sp : List Sp} {q : List Int} (h : QuK p σ sp q) (i : Int) : rdK p σ sp i ↔ ∃ q, QuK p σ sp q ∧ rdQ p sp q i := by
  cases p with
  | tas P => exact absurd h id
  | _ => exact Iff.rfl
section
variable {p : PK} {σ : Ar} {sp : List Sp} {n m : Nat} (h : OkK p σ sp n m) (hL : limK p sp)
include h hL
theorem OkK.cost_step (i : Int) : cost p (doK p σ sp 0 i).2.2 i ≤ cost p sp i ∧ (rdK p σ sp i → (spOf sp i).pc ≠ 10 → cost p (doK p σ sp 0 i).2.2 i < cost p sp i) ∧
    (∀ s, s ≠ i → rdK p σ sp s → cost p (doK p σ sp 0 i).2.2 i < cost p sp i ∨ rdK p (doK p σ sp 0 i).2.1 (doK p σ sp 0 i).2.2 s) := by
  rcases h.queue with ⟨P, rfl⟩ | ⟨q0, hq0⟩
  · exact tas_step (Ta.OkP.inv (show Ta.OkP P σ sp n m from h)) hL.2.2 i
  · rw [hq0.costs, hq0.costs]
    have w0 := (hq0.wstep i).1
    refine ⟨?_, fun hr hn => ?_, fun s hs hr => ?_⟩
    · rcases w0 with w0 | w0
      · omega
      · rw [w0.1]; exact Nat.le_refl _
    · obtain ⟨q, hq, hr⟩ := (rdK_q hq0 i).1 hr
      exact (hq.wstep i).2 hr hn
    · obtain ⟨q, hq, hr⟩ := (rdK_q hq0 s).1 hr
      rcases (hq.wstep i).1 with w | ⟨w, hq'⟩
      · exact .inl w
      · right
        refine (rdK_q hq' s).2 ⟨q, hq', ?_⟩
        have ho := fun j (hj : j ≠ i) => do_other p σ sp 0 i j hj
        unfold rdQ at hr ⊢
        rw [ho s hs]
        refine ⟨hr.1, hr.2.1, fun h13 ⟨j, t, e, hj⟩ => hr.2.2 h13 ⟨j, t, e, ?_⟩⟩
        by_cases ej : j = i
        · rw [ej] at hj ⊢; rw [← w]; exact hj
        · rw [← ho j ej]; exact hj
theorem OkK.some_rd {s : Int} (hs : (spOf sp s).pc ≠ 0) : ∃ i, (spOf sp i).pc ≠ 0 ∧ rdK p σ sp i := by
  rcases h.queue with ⟨P, rfl⟩ | ⟨q0, hq0⟩
  · have hi := Ta.OkP.inv (show Ta.OkP P σ sp n m from h)
    by_cases hh : ∃ j, Ta.holds (spOf sp j)
    · obtain ⟨j, hj⟩ := hh
      exact ⟨j, by unfold Ta.holds at hj; omega, .inl hj⟩
    · have hf : ∀ j, ¬ Ta.holds (spOf sp j) := fun j hj => hh ⟨j, hj⟩
      obtain ⟨i0, i1⟩ := spOf_range (sp := sp) (i := s) hs
      obtain ⟨k, rfl⟩ := Int.eq_ofNat_of_zero_le i0
      have hp := hi.pcs k
      have h2 := hf k
      cases hk : fstT sp with
      | none =>
        have := fst_none.1 hk k (by omega)
        rw [← Bool.not_eq_true, com_iff] at this
        unfold Ta.holds at hp h2
        omega
      | some k' =>
        have := com_iff.1 (fst_iff.1 hk).2.1
        exact ⟨k', by omega, .inr ⟨hf, k', rfl, hk⟩⟩
  · obtain ⟨i, h1, h2⟩ := hq0.ex_rd hs
    exact ⟨i, h1, (rdK_q hq0 i).2 ⟨q0, hq0, h2⟩⟩
theorem OkK.cost_leave {i : Int} (hi : (spOf sp i).pc = 10) (σ' : Ar) : cost p (doK p σ' sp 2 i).2.2 i ≤ cost p sp i := by
  have hp := (leave_pc p σ' hi).1
  rcases h.queue with ⟨P, rfl⟩ | ⟨q0, hq0⟩
  · have e2 : ∀ sp, exK (.tas P) sp = exT sp := fun _ => rfl
    unfold cost
    rw [e2, e2, ex_held (i := i) (.inr hp), ex_held (i := i) (.inl hi), hp, hi, wt11, wt10]
    omega
  · rw [hq0.costs, hq0.costs, hp, hi]
    decide
theorem OkK.cost_ask {i : Int} (i0 : 0 ≤ i) (i1 : i < n) (hi : (spOf sp i).pc = 0) : cost p (doK p σ sp 1 i).2.2 i ≤ cost p sp i + 10 := by
  have hp := (ask_pc p σ (sp := sp) i0 (by have := h.len; omega) hi).1
  have ho := fun j (hj : j ≠ i) => do_other p σ sp 1 i j hj
  rcases h.queue with ⟨P, rfl⟩ | ⟨q0, hq0⟩
  · have e2 : ∀ sp, exK (.tas P) sp = exT sp := fun _ => rfl
    have hm : P.most ≤ 4 := hL.1
    unfold cost
    rw [e2, e2, hp, hi, wt1, wt0]
    have hx : exT (doK (.tas P) σ sp 1 i).2.2 ≤ exT sp := by
      by_cases hh : ∃ j, Ta.holds (spOf sp j)
      · obtain ⟨j, hj⟩ := hh
        have hji : j ≠ i := fun e9 => by rw [e9] at hj; unfold Ta.holds at hj; omega
        rw [ex_held hj, ex_held (i := j) (by rw [ho j hji]; exact hj)]
        exact Nat.le_refl _
      · have hf : ∀ j, ¬ Ta.holds (spOf sp j) := fun j hj => hh ⟨j, hj⟩
        have hf' : ∀ j, ¬ Ta.holds (spOf (doK (.tas P) σ sp 1 i).2.2 j) := fun j hj => by
          by_cases ej : j = i
          · rw [ej] at hj; unfold Ta.holds at hj; omega
          · rw [ho j ej] at hj; exact hf j hj
        rw [ex_free hf, ex_free hf']
        cases hk : fstT (doK (.tas P) σ sp 1 i).2.2 with
        | none => exact Nat.zero_le _
        | some k =>
          by_cases ek : (k : Int) = i
          · show stB _ ≤ _
            rw [ek]
            unfold stB
            rw [if_neg (by rw [hp]; decide)]
            exact Nat.zero_le _
          · obtain ⟨k1, k2, k3⟩ := fst_iff.1 hk
            have hfst : fstT sp = some k := by
              refine fst_iff.2 ⟨by have := do_len (.tas P) σ sp 1 i; omega, ?_, fun j hj => ?_⟩
              · rw [com_iff] at k2 ⊢; rw [ho _ ek] at k2; exact k2
              · have := k3 j hj
                rw [← Bool.not_eq_true, com_iff] at this ⊢
                by_cases ej : (j : Int) = i
                · rw [ej]; omega
                · rw [ho _ ej] at this; exact this
            rw [hfst]
            show stB _ ≤ stB _
            rw [ho _ ek]
            exact Nat.le_refl _
    simp
    omega
  · rw [hq0.costs, hq0.costs, hp, hi]
    decide
end
theorem rdK.al {p : PK} {σ σ' : Ar} {sp : List Sp} {i : Int} (h : rdK p σ sp i) (a : Al p sp.length σ σ') : rdK p σ' sp i := by
  cases p with
  | tas P => exact h
  | tic P => obtain ⟨q, hq, hr⟩ := h; exact ⟨q, hq.al a, hr⟩
  | par P => obtain ⟨q, hq, hr⟩ := h; exact ⟨q, hq.al a, hr⟩
  | mcs P => obtain ⟨q, hq, hr⟩ := h; exact ⟨q, hq.al a, hr⟩
  | clh P => obtain ⟨q, hq, hr⟩ := h; exact ⟨q, hq.al a, hr⟩
theorem cnt_ex {f : Sp → Bool} {sp : List Sp} : ∀ {n : Nat}, 0 < cnt f sp n → ∃ k : Nat, k < n ∧ f (spOf sp (k : Int)) = true
  | 0, h => by simp [cnt] at h
  | n + 1, h => by
    by_cases hf : f (spOf sp (n : Int)) = true
    · exact ⟨n, by omega, hf⟩
    · have e : cnt f sp (n + 1) = cnt f sp n + if f (spOf sp (n : Int)) then 1 else 0 := rfl
      rw [e, if_neg hf] at h
      obtain ⟨k, h1, h2⟩ := cnt_ex (n := n) h
      exact ⟨k, by omega, h2⟩
theorem OkK.behind {p : PK} {σ : Ar} {sp : List Sp} {n m : Nat} (h : OkK p σ sp n m) {i : Int} (hp : (spOf sp i).pc = 10) (ha : (doK p σ sp 3 i).1 = false) : ∃ k : Nat, k < n ∧ 0 < (spOf sp (k : Int)).pc ∧ (spOf sp (k : Int)).pc < 10 := by
  have hl := h.len
  have key : 0 < cnt (fun s => decide (0 < s.pc) && decide (s.pc < 10)) sp sp.length → ∃ k : Nat, k < n ∧ 0 < (spOf sp (k : Int)).pc ∧ (spOf sp (k : Int)).pc < 10 := fun h2 => by
    obtain ⟨k, h3, h4⟩ := cnt_ex h2
    rw [Bool.and_eq_true, decide_eq_true_eq, decide_eq_true_eq] at h4
    exact ⟨k, by omega, h4⟩
  cases p with
  | tas P =>
    have : (doK (.tas P) σ sp 3 i).1 = ((spOf sp i).pc == 10) := rfl
    rw [this, hp] at ha
    exact absurd ha (by decide)
  | tic P => obtain ⟨S, T, hi, _⟩ := Tk.OkP.inv h; exact key (hi.behind i hp ha)
  | par P => obtain ⟨S, T, hi, _⟩ := Pt.OkP.inv h; exact key (hi.behind i hp ha)
  | mcs P => obtain ⟨q, hi⟩ := Mc.OkP.inv h; exact key (hi.behind i hp ha)
  | clh P => obtain ⟨z, q, hi⟩ := Cl.OkP.inv h; exact key (hi.behind i hp ha)
end Go.Proofs.YtfnmggmgdmokcaaGreat.Fl

/- A global lock of nodes, a local one of the threads of each: what a step makes of the locks' spots; a node that keeps the global lock has a thread that comes: the plain law. -/
namespace Go.Proofs.YtfnmggmgdmokcaaGreat.Co
open Go.RowKit Go.Proofs.YtfnmggmgdmokcaaGreat.Ara Go.Proofs.YtfnmggmgdmokcaaGreat.Lok Go.Proofs.YtfnmggmgdmokcaaGreat.Fl

structure Ch (P : Pm) (x x' : CS) (t : Nat) : Prop where
  l1 : pcT x t = 1 ∨ pcT x t = 16 → x'.loc (P.nd t) = (doK (P.pl (P.nd t)) x.σ (x.loc (P.nd t)) 0 (P.sl t)).2.2 ∧ x'.σ = (doK (P.pl (P.nd t)) x.σ (x.loc (P.nd t)) 0 (P.sl t)).2.1
  l2 : pcT x t ≠ 1 → pcT x t ≠ 16 → x'.loc (P.nd t) = x.loc (P.nd t) ∨ (pcL P x t = 10 ∧ (pcT x t = 13 ∨ (pcT x t = 15 ∧ pcT x' t = 16)) ∧ ∃ σ, x'.loc (P.nd t) = (doK (P.pl (P.nd t)) σ (x.loc (P.nd t)) 2 (P.sl t)).2.2)
  l3 : ∀ k, k ≠ P.nd t → x'.loc k = x.loc k
  g1 : pcT x t = 3 ∨ pcT x t = 15 → x'.g = (doK P.pg x.σ x.g 0 (P.nd t)).2.2 ∧ x'.σ = (doK P.pg x.σ x.g 0 (P.nd t)).2.1
  g2 : pcT x t ≠ 3 → pcT x t ≠ 15 → x'.g = x.g ∨ (pcT x t = 2 ∧ pcT x' t = 3 ∧ pcG x (P.nd t) = 0 ∧ x'.g = (doK P.pg x.σ x.g 1 (P.nd t)).2.2) ∨ (pcT x t = 14 ∧ pcG x (P.nd t) = 10 ∧ x'.g = (doK P.pg x.σ x.g 2 (P.nd t)).2.2)
  b : pcT x t = 12 → pcT x' t = 13 → (doK (P.pl (P.nd t)) x.σ (x.loc (P.nd t)) 3 (P.sl t)).1 = false
section
variable {P : Pm} {x : CS} {m : Nat} (D : Dj P) (H : CI P x m)
include D H
theorem CI.ch {t : Nat} (ht : t < P.T) : Ch P x (stepC P x t) t := by
  obtain ⟨hn, hsl⟩ := D.nd t ht
  have htl : t < x.S.length := by rw [H.len]; exact ht
  have hp := H.rel t ht
  have hN := H.nod t ht
  have hfr : pcT x t = 2 → (cnW P x (P.nd t) = 0 ∧ pcG x (P.nd t) = 0) ∨ (0 < cnW P x (P.nd t) ∧ pcG x (P.nd t) = 10) := fun h2 => H.free _ hn (fun u hu hnn => by
    by_cases eu : u = t
    · rw [eu, h2]; unfold busy; omega
    · have := H.alone D ht (by omega) hu hnn eu
      unfold busy; omega)
  have up : ∀ (v : List Sp) k, k ≠ P.nd t → upd x.loc (P.nd t) v k = x.loc k := fun v k hk => upd_other _ _ hk
  have us : ∀ v : List Sp, upd x.loc (P.nd t) v (P.nd t) = v := fun v => upd_self _ _ _
  have st : ∀ s' : Sp, spOf (x.S.set t s') (t : Int) = s' := fun s' => set_t htl s'
  unfold relP at hp
  unfold nodP at hN
  unfold stepC
  rcases (show pcT x t = 0 ∨ pcT x t = 10 ∨ pcT x t = 1 ∨ pcT x t = 2 ∨ pcT x t = 3 ∨ pcT x t = 4 ∨ pcT x t = 11 ∨ pcT x t = 12 ∨ pcT x t = 13 ∨ pcT x t = 14 ∨ pcT x t = 15 ∨ pcT x t = 16 by omega) with e | e | e | e | e | e | e | e | e | e | e | e
  · rw [if_pos (.inl e)]; exact ⟨fun h => by omega, fun _ _ => .inl rfl, fun _ _ => rfl, fun h => by omega, fun _ _ => .inl rfl, fun h => by omega⟩
  · rw [if_pos (.inr e)]; exact ⟨fun h => by omega, fun _ _ => .inl rfl, fun _ _ => rfl, fun h => by omega, fun _ _ => .inl rfl, fun h => by omega⟩
  · rw [if_neg (by show ¬ (pcT x t = 0 ∨ pcT x t = 10); omega), Int.toNat_natCast, if_pos (by show pcT x t < 10; omega)]; unfold inC
    rw [if_pos e]
    exact ⟨fun _ => ⟨us _, rfl⟩, fun h => absurd e h, up _, fun h => by omega, fun _ _ => .inl rfl, fun h => by omega⟩
  · rw [if_neg (by show ¬ (pcT x t = 0 ∨ pcT x t = 10); omega), Int.toNat_natCast, if_pos (by show pcT x t < 10; omega)]; unfold inC
    rw [if_neg (by show ¬ pcT x t = 1; omega), if_pos e]
    split
    · exact ⟨fun h => by omega, fun _ _ => .inl rfl, fun _ _ => rfl, fun h => by omega, fun _ _ => .inl rfl, fun h => by omega⟩
    · rename_i hc
      have hc' : ¬ 0 < cnW P x (P.nd t) := hc
      have := hfr e
      exact ⟨fun h => by omega, fun _ _ => .inl rfl, fun _ _ => rfl, fun h => by omega, fun _ _ => .inr (.inl ⟨e, by show (spOf (x.S.set t _) (t : Int)).pc = 3; rw [st], by omega, rfl⟩), fun h => by omega⟩
  · rw [if_neg (by show ¬ (pcT x t = 0 ∨ pcT x t = 10); omega), Int.toNat_natCast, if_pos (by show pcT x t < 10; omega)]; unfold inC
    rw [if_neg (by show ¬ pcT x t = 1; omega), if_neg (by show ¬ pcT x t = 2; omega), if_pos e]
    exact ⟨fun h => by omega, fun _ _ => .inl rfl, fun _ _ => rfl, fun _ => ⟨rfl, rfl⟩, fun h => absurd e h, fun h => by omega⟩
  · rw [if_neg (by show ¬ (pcT x t = 0 ∨ pcT x t = 10); omega), Int.toNat_natCast, if_pos (by show pcT x t < 10; omega)]; unfold inC
    rw [if_neg (by show ¬ pcT x t = 1; omega), if_neg (by show ¬ pcT x t = 2; omega), if_neg (by show ¬ pcT x t = 3; omega), if_pos e]
    exact ⟨fun h => by omega, fun _ _ => .inl rfl, fun _ _ => rfl, fun h => by omega, fun _ _ => .inl rfl, fun h => by omega⟩
  · rw [if_neg (by show ¬ (pcT x t = 0 ∨ pcT x t = 10); omega), Int.toNat_natCast, if_neg (by show ¬ pcT x t < 10; omega)]; unfold outC
    rw [if_pos e]
    exact ⟨fun h => by omega, fun _ _ => .inl rfl, fun _ _ => rfl, fun h => by omega, fun _ _ => .inl rfl, fun h => by omega⟩
  · rw [if_neg (by show ¬ (pcT x t = 0 ∨ pcT x t = 10); omega), Int.toNat_natCast, if_neg (by show ¬ pcT x t < 10; omega)]; unfold outC
    rw [if_neg (by show ¬ pcT x t = 11; omega), if_pos e]
    refine ⟨fun h => by omega, fun _ _ => .inl rfl, fun _ _ => rfl, fun h => by omega, fun _ _ => .inl rfl, fun _ h => ?_⟩
    have h : (spOf (x.S.set t _) (t : Int)).pc = 13 := h
    rw [st] at h
    have h : (if passes (spOf x.S (t : Int)).a P.B (doK (P.pl (P.nd t)) x.σ (x.loc (P.nd t)) 3 (P.sl t)).1 then (13 : Int) else 14) = 13 := h
    cases hb : (doK (P.pl (P.nd t)) x.σ (x.loc (P.nd t)) 3 (P.sl t)).1 with
    | false => rfl
    | true =>
      rw [hb] at h
      unfold passes at h
      simp at h
  · rw [if_neg (by show ¬ (pcT x t = 0 ∨ pcT x t = 10); omega), Int.toNat_natCast, if_neg (by show ¬ pcT x t < 10; omega)]; unfold outC
    rw [if_neg (by show ¬ pcT x t = 11; omega), if_neg (by show ¬ pcT x t = 12; omega), if_pos e]
    exact ⟨fun h => by omega, fun _ _ => .inr ⟨by omega, .inl e, x.σ, us _⟩, up _, fun h => by omega, fun _ _ => .inl rfl, fun h => by omega⟩
  · rw [if_neg (by show ¬ (pcT x t = 0 ∨ pcT x t = 10); omega), Int.toNat_natCast, if_neg (by show ¬ pcT x t < 10; omega)]; unfold outC
    rw [if_neg (by show ¬ pcT x t = 11; omega), if_neg (by show ¬ pcT x t = 12; omega), if_neg (by show ¬ pcT x t = 13; omega), if_pos e]
    exact ⟨fun h => by omega, fun _ _ => .inl rfl, fun _ _ => rfl, fun h => by omega, fun _ _ => .inr (.inr ⟨e, (hN.2.2.1 (by omega)).2, rfl⟩), fun h => by omega⟩
  · rw [if_neg (by show ¬ (pcT x t = 0 ∨ pcT x t = 10); omega), Int.toNat_natCast, if_neg (by show ¬ pcT x t < 10; omega)]; unfold outC
    rw [if_neg (by show ¬ pcT x t = 11; omega), if_neg (by show ¬ pcT x t = 12; omega), if_neg (by show ¬ pcT x t = 13; omega), if_neg (by show ¬ pcT x t = 14; omega), if_pos e]
    split
    · exact ⟨fun h => by omega, fun _ _ => .inr ⟨by omega, .inr ⟨e, by show (spOf (x.S.set t _) (t : Int)).pc = 16; rw [st]⟩, x.σ, us _⟩, up _, fun _ => ⟨rfl, rfl⟩, fun _ h => absurd e h, fun h => by omega⟩
    · exact ⟨fun h => by omega, fun _ _ => .inl rfl, fun _ _ => rfl, fun _ => ⟨rfl, rfl⟩, fun _ h => absurd e h, fun h => by omega⟩
  · rw [if_neg (by show ¬ (pcT x t = 0 ∨ pcT x t = 10); omega), Int.toNat_natCast, if_neg (by show ¬ pcT x t < 10; omega)]; unfold outC
    rw [if_neg (by show ¬ pcT x t = 11; omega), if_neg (by show ¬ pcT x t = 12; omega), if_neg (by show ¬ pcT x t = 13; omega), if_neg (by show ¬ pcT x t = 14; omega), if_neg (by show ¬ pcT x t = 15; omega), if_pos e]
    exact ⟨fun _ => ⟨us _, rfl⟩, fun _ h => absurd e h, up _, fun h => by omega, fun _ _ => .inl rfl, fun h => by omega⟩
end
structure CW (P : Pm) (x : CS) : Prop where
  c : ∀ n, n < P.NN → 0 < cnW P x n → (∀ u, u < P.T → P.nd u = n → ¬ busy (pcT x u)) → ∃ u, u < P.T ∧ P.nd u = n ∧ (pcT x u = 1 ∨ pcT x u = 2)
  w : ∀ t, t < P.T → pcT x t = 13 → ∃ u, u < P.T ∧ u ≠ t ∧ P.nd u = P.nd t ∧ pcT x u = 1
def Sjo (P : Pm) : Prop := ∀ k, k < P.T → ∀ s, s < P.mt (P.nd k) → ∃ u, u < P.T ∧ P.nd u = P.nd k ∧ P.sl u = s
section
variable {P : Pm} {x : CS} {m : Nat} (D : Dj P) (J : Sjo P) (H : CI P x m) (C : CW P x)
include D J H C
theorem CW.act (kd i : Int) : CW P (doC P x kd i) := by
  have H' := H.act D kd i
  rcases H.aw D kd i with h | ⟨t, ht, rfl, hx, hm, ho⟩ | ⟨t, ht, rfl, h0, h1, hσ, hg, hl, hl1, ho⟩ | ⟨t, ht, rfl, h0, h1, ha, hσ, hg, hl, ho⟩
  · rw [h]; exact C
  · have hc := H.ch D ht
    rw [← hx] at hc
    generalize doC P x kd t = x' at *
    have hpc : ∀ u : Nat, u ≠ t → pcT x' u = pcT x u := fun u hu => congrArg Sp.pc (ho.S u hu)
    have hal : 2 ≤ pcT x' t → ∀ u, u < P.T → P.nd u = P.nd t → u ≠ t → pcT x' u ≤ 1 := fun h2 u hu hn hne => H'.alone D ht h2 hu hn hne
    have hal0 : 2 ≤ pcT x t → ∀ u, u < P.T → P.nd u = P.nd t → u ≠ t → pcT x u ≤ 1 := fun h2 u hu hn hne => H.alone D ht h2 hu hn hne
    -- one at 13 keeps its witness
    have key13 : ∀ v, v < P.T → v ≠ t → pcT x' v = 13 → ∃ u, u < P.T ∧ u ≠ v ∧ P.nd u = P.nd v ∧ pcT x' u = 1 := by
      intro v hv hne h13
      obtain ⟨u, hu, hun, hnn, hu1⟩ := C.w v hv ((hpc v hne).symm.trans h13)
      by_cases e : u = t
      · subst e
        refine ⟨u, hu, hun, hnn, ?_⟩
        have h2 := H'.alone D hv (by omega) hu hnn hun
        have hm' := hm
        cases hm' <;> omega
      · exact ⟨u, hu, hun, hnn, by rw [hpc u e]; exact hu1⟩
    -- other nodes, and its own one where the thread stays as it is
    have keyc : ∀ n, n < P.NN → 0 < cnW P x' n → (∀ u, u < P.T → P.nd u = n → ¬ busy (pcT x' u)) → (P.nd t = n → ¬ busy (pcT x t) ∧ cnW P x' n = cnW P x n ∧ (pcT x t = 1 ∨ pcT x t = 2 → pcT x' t = 1 ∨ pcT x' t = 2)) → ∃ u, u < P.T ∧ P.nd u = n ∧ (pcT x' u = 1 ∨ pcT x' u = 2) := by
      intro n hn h0 hb hs
      have hcn : cnW P x' n = cnW P x n := by
        by_cases e : P.nd t = n
        · exact (hs e).2.1
        · exact ho.c n hn (fun e9 => e e9.symm)
      obtain ⟨u, hu, hnn, hu1⟩ := C.c n hn (by rw [← hcn]; exact h0) (fun u hu hnn => by
        by_cases e : u = t
        · rw [e] at hnn ⊢; exact (hs hnn).1
        · rw [← hpc u e]; exact hb u hu hnn)
      by_cases e : u = t
      · rw [e] at hu1 hnn
        exact ⟨t, ht, hnn, (hs hnn).2.2 hu1⟩
      · exact ⟨u, hu, hnn, by rw [hpc u e]; exact hu1⟩
    refine ⟨fun n hn h0 hb => ?_, fun v hv h13 => ?_⟩
    · by_cases en : P.nd t = n
      · have hbt := hb t ht en
        subst en
        cases hm with
        | rest h hp => rw [h] at h0 hb ⊢; exact C.c _ hn h0 hb
        | loc1 h h' hl hc2 hg => exact keyc _ hn h0 hb (fun _ => ⟨by rw [h]; unfold busy; omega, hc2, fun _ => .inl h'⟩)
        | got1 h h' hl hc2 hg => exact ⟨t, ht, rfl, .inr h'⟩
        | ent2 h h' hl ha h0' hc2 g0 hg => rw [h'] at hbt; unfold busy at hbt; omega
        | ask2 h h' hl h0' hc2 g0 hg => rw [h'] at hbt; unfold busy at hbt; omega
        | glo3 h h' hl h0' hc2 g0 hg => omega
        | got3 h h' hl h0' hc2 g0 hg => omega
        | ent4 h h' hl ha h0' hc2 g0 hg => rw [h'] at hbt; unfold busy at hbt; omega
        | ld11 h h' hl hc2 g0 hg => unfold busy at hbt; omega
        | al12 h h' hl hc2 g0 hg => unfold busy at hbt; omega
        | st13 h h' hl hc2 hB g0 hg =>
          obtain ⟨u, hu, hne, hnn, hu1⟩ := C.w t ht h
          exact ⟨u, hu, hnn, .inl (by rw [hpc u hne]; exact hu1)⟩
        | st14 h h' hl hc2 g0 hg => omega
        | glo15 h h' hl h0' hc2 g0 hg => omega
        | got15 h h' hl h0' hc2 g0 hg => omega
        | loc16 h h' hl hc2 hg => exact keyc _ hn h0 hb (fun _ => ⟨by rw [h]; unfold busy; omega, hc2, fun h9 => by omega⟩)
        | got16 h h' hl hc2 hg => exact keyc _ hn h0 hb (fun _ => ⟨by rw [h]; unfold busy; omega, hc2, fun h9 => by omega⟩)
      · exact keyc n hn h0 hb (fun e => absurd e en)
    · by_cases ev : v = t
      · rw [ev] at h13 ⊢
        cases hm with
        | al12 h h' hl hc2 g0 hg =>
          have hb := hc.b h h13
          have hr := H.rel t ht
          unfold relP at hr
          obtain ⟨s, s1, s2, s3⟩ := (H.ol _ (D.nd t ht).1).behind (i := P.sl t) (by show pcL P x t = 10; omega) hb
          obtain ⟨u, hu, hnn, hsu⟩ := J t ht s s1
          have hr2 := H.rel u hu
          have hx2 : pcL P x u = (spOf (x.loc (P.nd t)) (s : Int)).pc := by unfold pcL; rw [hnn, hsu]
          unfold relP at hr2
          have hne : u ≠ t := fun e => by
            rw [e] at hx2
            omega
          have := hal0 (by omega) u hu hnn hne
          exact ⟨u, hu, hne, hnn, by rw [hpc u hne]; omega⟩
        | rest h hp => rw [h] at h13; omega
        | _ => omega
      · exact key13 v hv ev h13
  · generalize doC P x kd t = x' at *
    have hpc : ∀ u : Nat, u ≠ t → pcT x' u = pcT x u := fun u hu => congrArg Sp.pc (ho.S u hu)
    refine ⟨fun n hn h9 hb => ?_, fun v hv h13 => ?_⟩
    · by_cases e : P.nd t = n
      · exact ⟨t, ht, e, .inl h1⟩
      · obtain ⟨u, hu, hnn, hu1⟩ := C.c n hn (by rw [← ho.c n hn (fun e9 => e e9.symm)]; exact h9) (fun u hu hnn => by
          have : u ≠ t := fun e9 => e (by rw [← e9]; exact hnn)
          rw [← hpc u this]; exact hb u hu hnn)
        have : u ≠ t := fun e9 => e (by rw [← e9]; exact hnn)
        exact ⟨u, hu, hnn, by rw [hpc u this]; exact hu1⟩
    · have hvt : v ≠ t := fun e => by rw [e] at h13; omega
      obtain ⟨u, hu, hne, hnn, hu1⟩ := C.w v hv (by rw [← hpc v hvt]; exact h13)
      have : u ≠ t := fun e => by rw [e] at hu1; omega
      exact ⟨u, hu, hne, hnn, by rw [hpc u this]; exact hu1⟩
  · generalize doC P x kd t = x' at *
    have hpc : ∀ u : Nat, u ≠ t → pcT x' u = pcT x u := fun u hu => congrArg Sp.pc (ho.S u hu)
    have hcn : ∀ n, cnW P x' n = cnW P x n := fun n => by unfold cnW; rw [hσ]
    refine ⟨fun n hn h9 hb => ?_, fun v hv h13 => ?_⟩
    · have hnt : P.nd t ≠ n := fun e => hb t ht e (by rw [h1]; unfold busy; omega)
      obtain ⟨u, hu, hnn, hu1⟩ := C.c n hn (by rw [← hcn]; exact h9) (fun u hu hnn => by
        have : u ≠ t := fun e9 => hnt (by rw [← e9]; exact hnn)
        rw [← hpc u this]; exact hb u hu hnn)
      have : u ≠ t := fun e9 => hnt (by rw [← e9]; exact hnn)
      exact ⟨u, hu, hnn, by rw [hpc u this]; exact hu1⟩
    · have hvt : v ≠ t := fun e => by rw [e] at h13; omega
      obtain ⟨u, hu, hne, hnn, hu1⟩ := C.w v hv (by rw [← hpc v hvt]; exact h13)
      have : u ≠ t := fun e => by rw [e] at hu1; omega
      exact ⟨u, hu, hne, hnn, by rw [hpc u this]; exact hu1⟩
end
end Go.Proofs.YtfnmggmgdmokcaaGreat.Co

