/- Merged texts: Cm20. -/
import Derived.Test.YtfnmggmgdmokcaaGreatCq28
set_option linter.unusedVariables false
/- The law CohortAhead: while a node is behind the global doorway no more enter than is told. -/
namespace Go.Proofs.YtfnmggmgdmokcaaGreat.Cm
open Go.RowKit Go.Proofs.YtfnmggmgdmokcaaGreat.Tp Go.Proofs.YtfnmggmgdmokcaaGreat.Ara Go.Proofs.YtfnmggmgdmokcaaGreat.Lok Go.Proofs.YtfnmggmgdmokcaaGreat.Fl Go.Proofs.YtfnmggmgdmokcaaGreat.Co


structure LaW (w : World) (cd : Cd) (P : Pm) (x : CS) (m gp : Nat) (passed : Nat → Nat) (L : List Int) (X Y : Value) (W : World) : Prop where
  k : CoAt W cd P x
  h : Ah P x m passed
  b : Bx w W X Y
  r : W.heap[gp]? = some (.cells (its L) 3 (0, 0))
theorem LaW.same {w : World} {cd : Cd} {P : Pm} {x : CS} {m gp : Nat} {passed : Nat → Nat} {L : List Int} {X Y : Value} {W W' : World} (h : LaW w cd P x m gp passed L X Y W) (b : Below W.heap.size W W') : LaW w cd P x m gp passed L X Y W' := ⟨h.k.same b, h.h, h.b.step b, (Mod.of_below (S := []) b).blk h.r (by simp)⟩
theorem LaW.put {w : World} {cd : Cd} {P : Pm} {x : CS} {m gp : Nat} {passed : Nat → Nat} {L : List Int} {X Y : Value} {W : World} (h : LaW w cd P x m gp passed L X Y W) (hi : Hi cd P.NN gp) (hg : w.heap.size < gp) (j : Nat) (y : Int) : LaW w cd P x m gp passed (L.set j y) X Y (W.setCell ⟨gp, j, none⟩ (.int .i64 y)) := by
  have hm : Mod [gp] W (W.setCell ⟨gp, j, none⟩ (.int .i64 y)) := (Mod.refl _ _).setCell (by simp) _
  obtain ⟨b1, b2, b3, b4⟩ := h.b
  refine ⟨h.k.high hi hm (by simp), h.h, ⟨Mod.below_of b1 hm b1.size (by simp; omega), Nat.lt_of_lt_of_le b2 hm.size, (Pa.cell_mod hm (p := ⟨w.heap.size, 0, none⟩) b2 (by simp; omega)).trans b3, (Pa.cell_mod hm (p := ⟨w.heap.size, 1, none⟩) b2 (by simp; omega)).trans b4⟩, its_set h.r j y⟩
theorem LaW.act {w : World} {cd : Cd} {P : Pm} {x : CS} {m gp : Nat} {passed : Nat → Nat} {L : List Int} {X Y : Value} {W W' : World} (h : LaW w cd P x m gp passed L X Y W) (D : Dj P) (hc : ∀ q, q < w.heap.size + 1 → cd.col q = 0) (hg : cd.col gp = 0) (kd i : Int) (k : CoAt W' cd P (doC P x kd i)) (kp : Kp cd.col W W') : LaW w cd P (doC P x kd i) (m + 1) gp (passC P x (doC P x kd i) i passed) L X Y W' :=
  ⟨k, h.h.act D kd i, Bx_kp h.b kp hc, kp.blk h.r hg⟩
def paL (N : Nat) (passed new : Nat → Nat) (v : Nat) : List Int := (List.range N).map fun u => ((if u < v then new u else passed u : Nat) : Int)
theorem paL_len (N : Nat) (f g : Nat → Nat) (v : Nat) : (paL N f g v).length = N := by simp [paL]
theorem paL_at {N : Nat} (f g : Nat → Nat) {v u : Nat} (h : u < N) : (paL N f g v).getD u 0 = ((if u < v then g u else f u : Nat) : Int) := Pa.map_getD h
theorem paL_succ {N : Nat} (f g : Nat → Nat) {v : Nat} : paL N f g (v + 1) = (paL N f g v).set v (g v : Int) := by
  refine List.ext_getElem (by simp [paL]) fun j h1 h2 => ?_
  rw [List.getElem_set]
  simp only [paL, List.getElem_map, List.getElem_range]
  by_cases e : v = j
  · subst e
    rw [if_pos (Nat.lt_succ_self v), if_pos rfl]
  · rw [if_neg e]
    by_cases h : j < v
    · rw [if_pos (by omega), if_pos h]
    · rw [if_neg (by omega), if_neg h]
theorem paL_keep {N : Nat} {f g : Nat → Nat} {v : Nat} (h : g v = f v) : paL N f g (v + 1) = paL N f g v := by
  unfold paL
  refine List.map_congr_left fun u _ => ?_
  by_cases e : u = v
  · subst e
    rw [if_pos (Nat.lt_succ_self u), if_neg (Nat.lt_irrefl u), h]
  · by_cases h2 : u < v
    · rw [if_pos (by omega), if_pos h2]
    · rw [if_neg (by omega), if_neg h2]
theorem paL_zero (N : Nat) (f g : Nat → Nat) : paL N f g 0 = (List.range N).map fun u => (f u : Int) := by
  unfold paL
  exact List.map_congr_left fun u _ => by rw [if_neg (Nat.not_lt_zero u)]
theorem paL_all (N : Nat) (f g : Nat → Nat) : paL N f g N = (List.range N).map fun u => (g u : Int) := by
  unfold paL
  exact List.map_congr_left fun u hu => by rw [if_pos (List.mem_range.1 hu)]
def AhJ (w : World) (cd : Cd) (P : Pm) (gp N : Nat) (most : Int) (X Y : Value) (C : Option Addr) (cap : Nat) (l : List Ac) (a : Act) (W : World) : Prop :=
  a.tmps.size = 112 ∧ a.defers = [] ∧ a.tmps.getD 2 undef = .slice C l.length cap ∧ a.tmps.getD 8 undef = .pointer (some ⟨cd.gl, 0, none⟩) ∧ a.tmps.getD 11 undef = .int .i64 (N : Int) ∧ a.tmps.getD 12 undef = .int .i64 most ∧ a.tmps.getD 14 undef = .slice (some ⟨gp, 0, none⟩) N N ∧
    ∃ (k : Nat) (x : CS) (passed : Nat → Nat), a.tmps.getD 15 undef = .int .i64 (k : Int) ∧ k ≤ l.length ∧ LaW w cd P x (33 + k) gp passed ((List.range N).map fun u => (passed u : Int)) X Y W
def AhI (w : World) (cd : Cd) (P : Pm) (gp N : Nat) (most : Int) (X Y : Value) (C : Option Addr) (cap : Nat) (l : List Ac) (k : Nat) (en : Bool) (x : CS) (passed new : Nat → Nat) (a : Act) (W : World) : Prop :=
  a.tmps.size = 112 ∧ a.defers = [] ∧ a.tmps.getD 2 undef = .slice C l.length cap ∧ a.tmps.getD 8 undef = .pointer (some ⟨cd.gl, 0, none⟩) ∧ a.tmps.getD 11 undef = .int .i64 (N : Int) ∧ a.tmps.getD 12 undef = .int .i64 most ∧ a.tmps.getD 14 undef = .slice (some ⟨gp, 0, none⟩) N N ∧ a.tmps.getD 15 undef = .int .i64 (k : Int) ∧ a.tmps.getD 17 undef = .bool en ∧
    ∃ v : Nat, a.tmps.getD 18 undef = .int .i64 (v : Int) ∧ v ≤ N ∧ LaW w cd P x (33 + (k + 1)) gp new (paL N passed new v) X Y W
theorem frame112 {a : Act} (h : a.tmps.size = 112) (hd : a.defers = []) : ∃ u : Nat → Value, a = { tmps := #[u 0, u 1, u 2, u 3, u 4, u 5, u 6, u 7, u 8, u 9, u 10, u 11, u 12, u 13, u 14, u 15, u 16, u 17, u 18, u 19, u 20, u 21, u 22, u 23, u 24, u 25, u 26, u 27, u 28, u 29, u 30, u 31, u 32, u 33, u 34, u 35, u 36, u 37, u 38, u 39, u 40, u 41, u 42, u 43, u 44, u 45, u 46, u 47, u 48, u 49, u 50, u 51, u 52, u 53, u 54, u 55, u 56, u 57, u 58, u 59, u 60, u 61, u 62, u 63, u 64, u 65, u 66, u 67, u 68, u 69, u 70, u 71, u 72, u 73, u 74, u 75, u 76, u 77, u 78, u 79, u 80, u 81, u 82, u 83, u 84, u 85, u 86, u 87, u 88, u 89, u 90, u 91, u 92, u 93, u 94, u 95, u 96, u 97, u 98, u 99, u 100, u 101, u 102, u 103, u 104, u 105, u 106, u 107, u 108, u 109, u 110, u 111], defers := [] } ∧ ∀ n, a.tmps.getD n undef = u n := by
  refine ⟨fun n => a.tmps.getD n undef, ?_, fun _ => rfl⟩
  have h1 := arr_lit a.tmps h
  cases a with
  | mk t d =>
    simp only at hd h1
    subst hd
    congr 1
section
variable (p t : List Int) (A B : Option Addr) (c d : Nat) (w : World) (hs : Sl w w.heap.size A (p.flatMap decI)) (ht : Sl w w.heap.size B (t.flatMap decI)) (n0 n1 n2 : Int) (h0 : 0 ≤ n0 ∧ n0 ≤ 255) (h1 : 0 ≤ n1 ∧ n1 ≤ 255) (h2 : 0 ≤ n2 ∧ n2 ≤ 255) (C : Option Addr) (cap : Nat) (l : List Ac) (hlc : l.length ≤ cap) (hcm : cap ≤ maxLen) (hl : Sl w w.heap.size C (l.flatMap decAc))
include hs ht h0 h1 h2 hlc hcm hl
set_option maxRecDepth 100000 in
set_option maxHeartbeats 8000000 in
theorem ahead_walk : Calls Tryz.prog 5 #[(.agg #[.slice A p.length c, .slice B t.length d]), .agg #[.int .u8 n0, .int .u8 n1, .int .u8 n2], .slice C l.length cap] w fun e w' => e = .returned (.bool true) ∧ Below w.heap.size w w' := by
  have HAW := Lib.hid (fun W => awake_any W)
  have i9 : (l.length : Int) ≤ 9223372036854775807 := by simp only [maxLen] at hcm; omega
  have HS := Lib.hid hs
  have HT := Lib.hid ht
  have HLS := Lib.hid hl
  clear hs ht hl
  by_cases hlen : l.length ≤ 150
  · have i1 : ¬ (150 : Int) < (l.length : Int) := by omega
    by_cases hok : chk p t = 0 ∧ t.length ≤ 8
    · obtain ⟨hck, h8⟩ := hok
      obtain ⟨l1, l2, l3, l4⟩ := chk_len hck
      have HMD := Lib.hid (fun W h3 h4 => made_ok p t A B c d W h3 h4 n0 n1 n2 h0 h1 h2 true hck h8)
      have q1 := fun a b c d W => fld0 a b c d W
      have HOK := Lib.hid (show (mwOf p t n0 n1 n2 true).Ok from nw_ok hck (by unfold kgOf; rw [if_pos rfl]; omega) (by unfold kgOf; rw [if_pos rfl]; omega) (by omega) (by omega))
      have HRM := Lib.hid (show (mwOf p t n0 n1 n2 true).tN (Ar.fresh 4096).t (mwOf p t n0 n1 n2 true).NN ≤ (Ar.fresh 4096).ws.length from nw_fits hck HOK.out (by omega))
      have HDJ := Lib.hid (Nw.dj HOK.out HRM.out)
      have hn4 : 0 ≤ n2 % 4 ∧ n2 % 4 ≤ 3 := by omega
      have HBR := Lib.hid (show Bud.right ((mwOf p t n0 n1 n2 true).pm (Ar.fresh 4096)).B = true from Bud.right_iff.2 ⟨by show 0 ≤ n2 % 4; omega, by show n2 % 4 ≤ 1000; omega⟩)
      have HA0 := Lib.hid (Nw.ah HOK.out HRM.out (fun k _ => zeros_at 4096 k) (by decide) (by show 2 ≤ kgOf n0 true; unfold kgOf; rw [if_pos rfl]; omega) (by show 2 ≤ kgOf n1 true; unfold kgOf; rw [if_pos rfl]; omega) (m := 33) (by show 0 + (lvs p).length + 1 ≤ 33; have := lvs_len p; omega))
      have HDR := Lib.hid (show 1 ≤ dr ((mwOf p t n0 n1 n2 true).pm (Ar.fresh 4096)).pg from pk_dr (kind := kgOf n0 true) ⟨by unfold kgOf; rw [if_pos rfl]; omega, by unfold kgOf; rw [if_pos rfl]; omega⟩)
      have HPT := Lib.hid (show ((mwOf p t n0 n1 n2 true).pm (Ar.fresh 4096)).NN = (lvs p).length ∧ ((mwOf p t n0 n1 n2 true).pm (Ar.fresh 4096)).B = n2 % 4 from ⟨rfl, rfl⟩)
      have hL := fun W h1 h2 => rleaves_any p t A B c d W (by omega) (by omega) h1 h2
      rw [lvT_ok hck] at hL
      have HLV := Lib.hid hL
      have hLL := lvs_len p
      have hpos : 1 ≤ (lvs p).length := List.length_pos_iff.2 (lvs_ne (chk_ok hck).2.1 l1)
      have HBA := Lib.hid (fun W => Bud.ahead_yes ((lvs p).length : Int) (n2 % 4) W (Bud.right_iff.2 (by omega)) (Bud.inB_iff.2 (by omega)))
      have hmk := fun W => make_ints (lvs p).length (by omega) W
      clear h0 h1 h2 hL
      go_enter Tryz.func5, Tryz.ntmps5
      go_upto_region 3 with fail
      have HX := Lib.hid ((Bx.made w (.slice A p.length c) (.slice B t.length d) 24).step (below_new _ (.cells #[.int .u8 n0, .int .u8 n1, .int .u8 n2] 25)))
      have hx9 := blk_new (w.alloc (.cells #[.slice A p.length c, .slice B t.length d] 24)) (.cells #[.int .u8 n0, .int .u8 n1, .int .u8 n2] 25)
      have hz9 : (w.alloc (.cells #[.slice A p.length c, .slice B t.length d] 24)).heap.size = w.heap.size + 1 := by simp
      rw [hz9] at hx9
      generalize (w.alloc (.cells #[.slice A p.length c, .slice B t.length d] 24)).alloc (.cells #[.int .u8 n0, .int .u8 n1, .int .u8 n2] 25) = W1 at *
      have c0 := HX.out.2.2.1
      have c1 := HX.out.2.2.2
      have d0 := blk_cell hx9 0 (by simp)
      have d1 := blk_cell hx9 1 (by simp)
      have d2 := blk_cell hx9 2 (by simp)
      simp at d0 d1 d2
      have hlt9 := lt_of_blk hx9
      clear hx9 hz9
      go_wp2_with fail
      refine (HMD.out _ (HX.out.sl HS.out) (HX.out.sl HT.out)).mono ?_
      rintro e W2 ⟨cd, rfl, hK, hcol, hb2⟩
      have HCOL := Lib.hid (show ∀ q, q < w.heap.size + 1 → cd.col q = 0 from fun q hq => hcol q (by omega))
      generalize (mwOf p t n0 n1 n2 true).pm (Ar.fresh 4096) = P at *
      generalize (mwOf p t n0 n1 n2 true).st (Ar.fresh 4096) = x0 at *
      have HX2 := Lib.hid (HX.out.step hb2)
      have HK2 := Lib.hid hK
      clear hK hcol hb2 HX c0 c1 d0 d1 d2 HMD HOK HRM
      simp only [mpOf]
      have HX3 := Lib.hid (HX2.out.step (below_new W2 (.cells #[.int .i64 (kgOf n0 true), .int .i64 (kgOf n1 true), .int .i64 (1 + n2 / 4 % 4), .int .i64 (n2 % 4)] 30)))
      have HK3 := Lib.hid (HK2.out.same (below_new W2 (.cells #[.int .i64 (kgOf n0 true), .int .i64 (kgOf n1 true), .int .i64 (1 + n2 / 4 % 4), .int .i64 (n2 % 4)] 30)))
      have hp9 := blk_new W2 (.cells #[.int .i64 (kgOf n0 true), .int .i64 (kgOf n1 true), .int .i64 (1 + n2 / 4 % 4), .int .i64 (n2 % 4)] 30)
      have HP9 := Lib.hid hp9
      have c0 := HX3.out.2.2.1
      have c1 := HX3.out.2.2.2
      go_upto_region 6 with fail
      generalize W2.alloc (.cells #[.int .i64 (kgOf n0 true), .int .i64 (kgOf n1 true), .int .i64 (1 + n2 / 4 % 4), .int .i64 (n2 % 4)] 30) = W3 at *
      generalize W2.heap.size = pr at *
      clear hp9
      go_wp2_with fail
      refine (HLV.out _ (HX3.out.sl HS.out) (HX3.out.sl HT.out)).mono ?_
      rintro e W4 ⟨E, ke, rfl, s4, b4⟩
      have HX4 := Lib.hid (HX3.out.step b4)
      have HK4 := Lib.hid (HK3.out.same b4)
      have p3 := blk_cell ((Mod.of_below (S := []) b4).blk HP9.out (by simp)) 3 (by simp)
      simp at p3
      clear s4 b4 c0 c1 HX2 HK2
      go_wp2_with fail
      refine (HBA.out _).mono ?_
      rintro e wx ⟨rfl, hwx⟩
      obtain rfl := hwx.symm
      have HMO := Lib.hid (show (((P.NN - 1) * (P.B + 1).toNat : Nat) : Int) = (((lvs p).length : Int) - 1) * (n2 % 4 + 1) by
        rw [HPT.out.1, HPT.out.2]
        rw [Int.natCast_mul, Int.toNat_of_nonneg (by omega)]
        congr 1
        omega)
      go_wp2_with fail
      have hgp := blk_new W4 (.cells (its (List.replicate (lvs p).length 0)) 3)
      have hbn := below_new W4 (.cells (its (List.replicate (lvs p).length 0)) 3)
      have HHI := Lib.hid (show Hi cd P.NN W4.heap.size from HK4.out.hi)
      have hgc := HK4.out.s.fresh _ (Nat.le_refl W4.heap.size)
      have hgw := HX4.out.2.1
      have HW5 := Lib.hid (show LaW w cd P x0 33 W4.heap.size (fun _ => 0) ((List.range (lvs p).length).map fun u => (0 : Int)) (.slice A p.length c) (.slice B t.length d) (W4.alloc (.cells (its (List.replicate (lvs p).length 0)) 3)) from ⟨HK4.out.same hbn, HA0.out, HX4.out.step hbn, by
        rw [show ((List.range (lvs p).length).map fun _ => (0 : Int)) = List.replicate (lvs p).length 0 from by rw [List.map_const', List.length_range]]
        exact hgp⟩)
      have HGC := Lib.hid hgc
      clear hgp hbn hgc p3 HX4 HK4 HX3 HK3 HP9 hmk HA0 HBA
      generalize W4.alloc (.cells (its (List.replicate (lvs p).length 0)) 3) = W5 at *
      generalize W4.heap.size = gp at *
      have HMB := Lib.hid (show (((lvs p).length : Int) - 1) * (n2 % 4 + 1) ≤ 124 from by
        have h9 : (((lvs p).length : Int) - 1) * (n2 % 4 + 1) ≤ 31 * 4 := Int.mul_le_mul (by omega) (by omega) (by omega) (by omega)
        omega)
      generalize (((lvs p).length : Int) - 1) * (n2 % 4 + 1) = most at *
      refine wp_loop (AhJ w cd P gp (lvs p).length most (.slice A p.length c) (.slice B t.length d) C cap l) (fun a' _ => l.length - (intOf (a'.tmps.getD 15 undef)).toNat) ?_ ?_
      · exact ⟨rfl, rfl, rfl, rfl, rfl, rfl, rfl, 0, x0, _, rfl, Nat.zero_le _, HW5.out⟩
      · clear HW5
        rintro a' W ⟨hsz, hdf, s2, s8, s11, s12, s14, k, x, passed, s15, hk, hL⟩
        obtain ⟨u, rfl, hu⟩ := frame112 hsz hdf
        rw [hu] at s2 s8 s11 s12 s14 s15
        simp only [s2, s8, s11, s12, s14, s15]
        clear hsz hdf s2 s8 s11 s12 s14 s15 hu
        have HL := Lib.hid hL
        by_cases hlt : k < l.length
        · have i2 : (k : Int) < (l.length : Int) := by omega
          obtain ⟨b, off, rfl, hbb, hcell⟩ := Sl_at (dec := decAc) (k := 2) (fun _ => rfl) (by omega) HLS.out (by omega)
          have e0 := hcell k hlt 0 (by omega)
          have e1 := hcell k hlt 1 (by omega)
          simp only [decAc, List.getElem?_cons_zero, List.getElem?_cons_succ, Nat.add_zero, ← Nat.add_assoc] at e0 e1
          generalize l[k] = ac at *
          obtain ⟨kd, i⟩ := ac
          simp only at e0 e1
          have HE := Lib.hid (fun W' (h : Below w.heap.size w W') => And.intro ((h.cell (p := ⟨b, off + k * 2, none⟩) hbb).trans e0) ((h.cell (p := ⟨b, off + k * 2 + 1, none⟩) hbb).trans e1))
          clear e0 e1 hcell
          obtain ⟨e0, e1⟩ := HE.out W hL.b.1
          have HSP := Lib.hid (spot_co hL.k i)
          have HD := Lib.hid (fun W' (K' : CoAt W' cd P x) => do_co K' HDJ.out hL.h.ci (by omega) HBR.out kd i)
          have HX' := Lib.hid (fun W9 (hL9 : LaW w cd P x (33 + k) gp passed ((List.range (lvs p).length).map fun u => (passed u : Int)) (.slice A p.length c) (.slice B t.length d) W9) W' (k4 : CoAt W' cd P (doC P x kd i)) (p4 : Kp cd.col W9 W') => hL9.act HDJ.out HCOL.out HGC.out kd i k4 p4)
          have HPL := Lib.hid (fun v (hv : v < (lvs p).length) => hL.h.le (v := v) (by rw [HPT.out.1]; exact hv))
          have HEN := Lib.hid (show entB x (doC P x kd i) i = (decide ((spOf x.S i).pc < 10) && decide ((spOf (doC P x kd i).S i).pc = 10)) from rfl)
          have HNV := Lib.hid (show ∀ v, passC P x (doC P x kd i) i passed v = if behind P (doC P x kd i) v then (if entB x (doC P x kd i) i then passed v + 1 else passed v) else 0 from fun _ => rfl)
          clear hL
          generalize doC P x kd i = x' at *
          generalize passC P x x' i passed = new at *
          generalize entB x x' i = en at *
          generalize hsp : spOf x.S i = sp at *
          have HSX := Lib.hid hsp
          clear hsp
          obtain ⟨xp, xa, xb, xc⟩ := sp
          simp only at HSP HEN
          go_wp2_with fail
          refine HSP.out.mono ?_
          rintro e w6 ⟨rfl, hb6⟩
          have hL6 := HL.out.same hb6
          have HL6 := Lib.hid hL6
          clear e0 e1
          obtain ⟨e0, e1⟩ := HE.out w6 hL6.b.1
          clear hL6 hb6
          go_wp2_with fail
          refine (HD.out _ HL6.out.k).mono ?_
          rintro e w7 ⟨rfl, hk7, hp7⟩
          have hL7 := HX'.out _ HL6.out _ hk7 hp7
          have HL7 := Lib.hid hL7
          clear e0 e1
          obtain ⟨e0, e1⟩ := HE.out w7 hL7.b.1
          have HS7 := Lib.hid (spot_co hL7.k i)
          clear hk7 hp7 hL7 HD HX' HL HSP
          by_cases h10 : xp < 10
          · by_cases h11 : (spOf x'.S i).pc = 10
            · have hen : en = true := by rw [HEN.out, decide_eq_true h10, decide_eq_true h11]; rfl
              subst hen
              generalize spOf x'.S i = sp' at *
              obtain ⟨yp, ya, yb, yc⟩ := sp'
              simp only at HS7 h11
              subst h11
              go_wp2_with fail
              refine HS7.out.mono ?_
              rintro e w8 ⟨rfl, hb8⟩
              have HL8 := Lib.hid (HL7.out.same hb8)
              clear hb8
              go_wp2_with fail
              refine wp_loop (AhI w cd P gp (lvs p).length most (.slice A p.length c) (.slice B t.length d) (some ⟨b, off, none⟩) cap l k true x' passed new) (fun a' _ => (lvs p).length - (intOf (a'.tmps.getD 18 undef)).toNat) ?_ ?_
              · exact ⟨rfl, rfl, rfl, rfl, rfl, rfl, rfl, rfl, rfl, 0, rfl, Nat.zero_le _, by rw [paL_zero]; exact HL8.out⟩
              · clear HL8 HL7 HL6 HS7 e0 e1
                rintro a' W9 ⟨hsz, hdf, s2, s8, s11, s12, s14, s15, s17, v, s18, hv, hL9⟩
                obtain ⟨u, rfl, hu⟩ := frame112 hsz hdf
                rw [hu] at s2 s8 s11 s12 s14 s15 s17 s18
                simp only [s2, s8, s11, s12, s14, s15, s17, s18]
                clear hsz hdf s2 s8 s11 s12 s14 s15 s17 s18 hu
                have HL9 := Lib.hid hL9
                by_cases hvl : v < (lvs p).length
                · have i4 : (v : Int) < ((lvs p).length : Int) := by omega
                  have hpl := HPL.out v hvl
                  have hnl := hL9.h.le (v := v) (by rw [HPT.out.1]; exact hvl)
                  have hmo := HMO.out
                  have hnv := HNV.out v
                  have i6 : ¬ most < (new v : Int) := by omega
                  have hpb : (passed v : Int) ≤ 1000 := by
                    have := HMB.out
                    omega
                  have hp0 : (0 : Int) ≤ (passed v : Int) := by omega
                  have HGL := Lib.hid (global_co hL9.k (v : Int))
                  have hr9 := hL9.r
                  have hat := paL_at (N := (lvs p).length) passed new (v := v) (u := v) hvl
                  rw [if_neg (Nat.lt_irrefl v)] at hat
                  by_cases hb : behind P x' v
                  · rw [if_pos hb] at hnv
                    rw [(glo_two HDR.out x' v).2 hb] at HGL
                    replace hnv := hnv.trans (if_pos (by trivial))
                    have HSC := Lib.hid (paL_succ passed new (N := (lvs p).length) (v := v))
                    rw [hnv] at HSC i6
                    clear hL9 hr9 hpl hnl hmo hnv
                    go_wp2_with fail
                    refine HGL.out.mono ?_
                    rintro e w10 ⟨rfl, hb10⟩
                    have hLa := HL9.out.same hb10
                    have c9 := its_cell hLa.r (i := v) (by rw [paL_len]; exact hvl)
                    rw [hat] at c9
                    have f9 := blk_free hLa.r v
                    have hLb := hLa.put HHI.out hgw v ((passed v + 1 : Nat) : Int)
                    have HLb := Lib.hid hLb
                    have d9 := its_cell hLb.r (i := v) (by rw [List.length_set, paL_len]; exact hvl)
                    rw [show ((paL (lvs p).length passed new v).set v ((passed v + 1 : Nat) : Int)).getD v 0 = ((passed v + 1 : Nat) : Int) by rw [List.getD_eq_getElem?_getD, List.getElem?_set_self (by rw [paL_len]; exact hvl)]; rfl] at d9
                    rw [show ((passed v + 1 : Nat) : Int) = (passed v : Int) + 1 by omega] at d9 i6 HSC HLb
                    clear hLa hLb hb10 hat
                    generalize (passed v : Int) = pv at *
                    go_wp2_with fail
                    go_roundw
                    case rel => exact ⟨rfl, rfl, rfl, rfl, rfl, rfl, rfl, rfl, rfl, v + 1, by go_num, by omega, by rw [HSC.out]; exact HLb.out⟩
                    case measure => simp [intOf]; omega
                  · rw [if_neg hb] at hnv
                    have hg2 : ¬ gloV P x' (v : Int) = 2 := fun h => hb ((glo_two HDR.out x' v).1 h)
                    have g2 := ibne hg2
                    have HSC := Lib.hid (paL_succ passed new (N := (lvs p).length) (v := v))
                    rw [hnv] at HSC i6
                    generalize gloV P x' (v : Int) = gv at *
                    clear hL9 hr9 hat hg2 hpl hnl hmo hnv
                    go_wp2_with fail
                    refine HGL.out.mono ?_
                    rintro e w10 ⟨rfl, hb10⟩
                    have hLa := HL9.out.same hb10
                    have c9 := its_cell hLa.r (i := v) (by rw [paL_len]; exact hvl)
                    have f9 := blk_free hLa.r v
                    have hLb := hLa.put HHI.out hgw v 0
                    have HLb := Lib.hid hLb
                    have d9 := its_cell hLb.r (i := v) (by rw [List.length_set, paL_len]; exact hvl)
                    rw [show ((paL (lvs p).length passed new v).set v 0).getD v 0 = 0 by rw [List.getD_eq_getElem?_getD, List.getElem?_set_self (by rw [paL_len]; exact hvl)]; rfl] at d9
                    clear hLa hLb hb10
                    go_wp2_with fail
                    go_roundw
                    case rel => exact ⟨rfl, rfl, rfl, rfl, rfl, rfl, rfl, rfl, rfl, v + 1, by go_num, by omega, by rw [HSC.out]; exact HLb.out⟩
                    case measure => simp [intOf]; omega
                · obtain rfl : v = (lvs p).length := by omega
                  have i4 : ¬ ((lvs p).length : Int) < ((lvs p).length : Int) := by omega
                  clear hL9
                  go_wp2_with fail
                  go_roundw
                  case rel => exact ⟨rfl, rfl, rfl, rfl, rfl, rfl, rfl, k + 1, x', new, by go_num, by omega, by have := HL9.out; rw [paL_all] at this; exact this⟩
                  case measure => simp [intOf]; omega
            · have hen : en = false := by rw [HEN.out, decide_eq_false h11, Bool.and_false]
              subst hen
              generalize spOf x'.S i = sp' at *
              obtain ⟨yp, ya, yb, yc⟩ := sp'
              simp only at HS7 h11
              have g9 := ibeq_no h11
              clear h11
              go_wp2_with fail
              refine HS7.out.mono ?_
              rintro e w8 ⟨rfl, hb8⟩
              have HL8 := Lib.hid (HL7.out.same hb8)
              clear hb8
              go_wp2_with fail
              refine wp_loop (AhI w cd P gp (lvs p).length most (.slice A p.length c) (.slice B t.length d) (some ⟨b, off, none⟩) cap l k false x' passed new) (fun a' _ => (lvs p).length - (intOf (a'.tmps.getD 18 undef)).toNat) ?_ ?_
              · exact ⟨rfl, rfl, rfl, rfl, rfl, rfl, rfl, rfl, rfl, 0, rfl, Nat.zero_le _, by rw [paL_zero]; exact HL8.out⟩
              · clear HL8 HL7 HL6 HS7 e0 e1
                rintro a' W9 ⟨hsz, hdf, s2, s8, s11, s12, s14, s15, s17, v, s18, hv, hL9⟩
                obtain ⟨u, rfl, hu⟩ := frame112 hsz hdf
                rw [hu] at s2 s8 s11 s12 s14 s15 s17 s18
                simp only [s2, s8, s11, s12, s14, s15, s17, s18]
                clear hsz hdf s2 s8 s11 s12 s14 s15 s17 s18 hu
                have HL9 := Lib.hid hL9
                by_cases hvl : v < (lvs p).length
                · have i4 : (v : Int) < ((lvs p).length : Int) := by omega
                  have hpl := HPL.out v hvl
                  have hnl := hL9.h.le (v := v) (by rw [HPT.out.1]; exact hvl)
                  have hmo := HMO.out
                  have hnv := HNV.out v
                  have i6 : ¬ most < (new v : Int) := by omega
                  have hpb : (passed v : Int) ≤ 1000 := by
                    have := HMB.out
                    omega
                  have hp0 : (0 : Int) ≤ (passed v : Int) := by omega
                  have HGL := Lib.hid (global_co hL9.k (v : Int))
                  have hr9 := hL9.r
                  have hat := paL_at (N := (lvs p).length) passed new (v := v) (u := v) hvl
                  rw [if_neg (Nat.lt_irrefl v)] at hat
                  by_cases hb : behind P x' v
                  · rw [if_pos hb] at hnv
                    rw [(glo_two HDR.out x' v).2 hb] at HGL
                    replace hnv := hnv.trans (if_neg (by simp))
                    have HSC := Lib.hid (paL_keep hnv (N := (lvs p).length))
                    rw [hnv] at i6
                    clear hL9 hr9 hpl hnl hmo hnv
                    go_wp2_with fail
                    refine HGL.out.mono ?_
                    rintro e w10 ⟨rfl, hb10⟩
                    have hLa := HL9.out.same hb10
                    have HLa := Lib.hid hLa
                    have c9 := its_cell hLa.r (i := v) (by rw [paL_len]; exact hvl)
                    rw [hat] at c9
                    clear hLa hb10 hat
                    generalize (passed v : Int) = pv at *
                    go_wp2_with fail
                    go_roundw
                    case rel => exact ⟨rfl, rfl, rfl, rfl, rfl, rfl, rfl, rfl, rfl, v + 1, by go_num, by omega, by rw [HSC.out]; exact HLa.out⟩
                    case measure => simp [intOf]; omega
                  · rw [if_neg hb] at hnv
                    have hg2 : ¬ gloV P x' (v : Int) = 2 := fun h => hb ((glo_two HDR.out x' v).1 h)
                    have g2 := ibne hg2
                    have HSC := Lib.hid (paL_succ passed new (N := (lvs p).length) (v := v))
                    rw [hnv] at HSC i6
                    generalize gloV P x' (v : Int) = gv at *
                    clear hL9 hr9 hat hg2 hpl hnl hmo hnv
                    go_wp2_with fail
                    refine HGL.out.mono ?_
                    rintro e w10 ⟨rfl, hb10⟩
                    have hLa := HL9.out.same hb10
                    have c9 := its_cell hLa.r (i := v) (by rw [paL_len]; exact hvl)
                    have f9 := blk_free hLa.r v
                    have hLb := hLa.put HHI.out hgw v 0
                    have HLb := Lib.hid hLb
                    have d9 := its_cell hLb.r (i := v) (by rw [List.length_set, paL_len]; exact hvl)
                    rw [show ((paL (lvs p).length passed new v).set v 0).getD v 0 = 0 by rw [List.getD_eq_getElem?_getD, List.getElem?_set_self (by rw [paL_len]; exact hvl)]; rfl] at d9
                    clear hLa hLb hb10
                    go_wp2_with fail
                    go_roundw
                    case rel => exact ⟨rfl, rfl, rfl, rfl, rfl, rfl, rfl, rfl, rfl, v + 1, by go_num, by omega, by rw [HSC.out]; exact HLb.out⟩
                    case measure => simp [intOf]; omega
                · obtain rfl : v = (lvs p).length := by omega
                  have i4 : ¬ ((lvs p).length : Int) < ((lvs p).length : Int) := by omega
                  clear hL9
                  go_wp2_with fail
                  go_roundw
                  case rel => exact ⟨rfl, rfl, rfl, rfl, rfl, rfl, rfl, k + 1, x', new, by go_num, by omega, by have := HL9.out; rw [paL_all] at this; exact this⟩
                  case measure => simp [intOf]; omega
          · have hen : en = false := by rw [HEN.out, decide_eq_false h10, Bool.false_and]
            subst hen
            have g9 := decide_eq_false h10
            have HL8 := HL7
            go_wp2_with fail
            refine wp_loop (AhI w cd P gp (lvs p).length most (.slice A p.length c) (.slice B t.length d) (some ⟨b, off, none⟩) cap l k false x' passed new) (fun a' _ => (lvs p).length - (intOf (a'.tmps.getD 18 undef)).toNat) ?_ ?_
            · exact ⟨rfl, rfl, rfl, rfl, rfl, rfl, rfl, rfl, rfl, 0, rfl, Nat.zero_le _, by rw [paL_zero]; exact HL8.out⟩
            · clear HL8 HL7 HL6 HS7 e0 e1
              rintro a' W9 ⟨hsz, hdf, s2, s8, s11, s12, s14, s15, s17, v, s18, hv, hL9⟩
              obtain ⟨u, rfl, hu⟩ := frame112 hsz hdf
              rw [hu] at s2 s8 s11 s12 s14 s15 s17 s18
              simp only [s2, s8, s11, s12, s14, s15, s17, s18]
              clear hsz hdf s2 s8 s11 s12 s14 s15 s17 s18 hu
              have HL9 := Lib.hid hL9
              by_cases hvl : v < (lvs p).length
              · have i4 : (v : Int) < ((lvs p).length : Int) := by omega
                have hpl := HPL.out v hvl
                have hnl := hL9.h.le (v := v) (by rw [HPT.out.1]; exact hvl)
                have hmo := HMO.out
                have hnv := HNV.out v
                have i6 : ¬ most < (new v : Int) := by omega
                have hpb : (passed v : Int) ≤ 1000 := by
                  have := HMB.out
                  omega
                have hp0 : (0 : Int) ≤ (passed v : Int) := by omega
                have HGL := Lib.hid (global_co hL9.k (v : Int))
                have hr9 := hL9.r
                have hat := paL_at (N := (lvs p).length) passed new (v := v) (u := v) hvl
                rw [if_neg (Nat.lt_irrefl v)] at hat
                by_cases hb : behind P x' v
                · rw [if_pos hb] at hnv
                  rw [(glo_two HDR.out x' v).2 hb] at HGL
                  replace hnv := hnv.trans (if_neg (by simp))
                  have HSC := Lib.hid (paL_keep hnv (N := (lvs p).length))
                  rw [hnv] at i6
                  clear hL9 hr9 hpl hnl hmo hnv
                  go_wp2_with fail
                  refine HGL.out.mono ?_
                  rintro e w10 ⟨rfl, hb10⟩
                  have hLa := HL9.out.same hb10
                  have HLa := Lib.hid hLa
                  have c9 := its_cell hLa.r (i := v) (by rw [paL_len]; exact hvl)
                  rw [hat] at c9
                  clear hLa hb10 hat
                  generalize (passed v : Int) = pv at *
                  go_wp2_with fail
                  go_roundw
                  case rel => exact ⟨rfl, rfl, rfl, rfl, rfl, rfl, rfl, rfl, rfl, v + 1, by go_num, by omega, by rw [HSC.out]; exact HLa.out⟩
                  case measure => simp [intOf]; omega
                · rw [if_neg hb] at hnv
                  have hg2 : ¬ gloV P x' (v : Int) = 2 := fun h => hb ((glo_two HDR.out x' v).1 h)
                  have g2 := ibne hg2
                  have HSC := Lib.hid (paL_succ passed new (N := (lvs p).length) (v := v))
                  rw [hnv] at HSC i6
                  generalize gloV P x' (v : Int) = gv at *
                  clear hL9 hr9 hat hg2 hpl hnl hmo hnv
                  go_wp2_with fail
                  refine HGL.out.mono ?_
                  rintro e w10 ⟨rfl, hb10⟩
                  have hLa := HL9.out.same hb10
                  have c9 := its_cell hLa.r (i := v) (by rw [paL_len]; exact hvl)
                  have f9 := blk_free hLa.r v
                  have hLb := hLa.put HHI.out hgw v 0
                  have HLb := Lib.hid hLb
                  have d9 := its_cell hLb.r (i := v) (by rw [List.length_set, paL_len]; exact hvl)
                  rw [show ((paL (lvs p).length passed new v).set v 0).getD v 0 = 0 by rw [List.getD_eq_getElem?_getD, List.getElem?_set_self (by rw [paL_len]; exact hvl)]; rfl] at d9
                  clear hLa hLb hb10
                  go_wp2_with fail
                  go_roundw
                  case rel => exact ⟨rfl, rfl, rfl, rfl, rfl, rfl, rfl, rfl, rfl, v + 1, by go_num, by omega, by rw [HSC.out]; exact HLb.out⟩
                  case measure => simp [intOf]; omega
              · obtain rfl : v = (lvs p).length := by omega
                have i4 : ¬ ((lvs p).length : Int) < ((lvs p).length : Int) := by omega
                clear hL9
                go_wp2_with fail
                go_roundw
                case rel => exact ⟨rfl, rfl, rfl, rfl, rfl, rfl, rfl, k + 1, x', new, by go_num, by omega, by have := HL9.out; rw [paL_all] at this; exact this⟩
                case measure => simp [intOf]; omega
        · obtain rfl : k = l.length := by omega
          have i2 : ¬ (l.length : Int) < (l.length : Int) := by omega
          clear hL
          go_wp2_with fail
          refine (HAW.out _).mono ?_
          rintro e w5 ⟨rfl, hb5⟩
          have HB5 := Lib.hid (HL.out.b.1.trans (hb5.mono HL.out.b.1.size))
          clear hb5
          go_wp2_with fail
          go_ret
          exact ⟨rfl, HB5.out⟩
    · have HMD := Lib.hid (fun W h3 h4 => made_no p t A B c d W h3 h4 n0 n1 n2 h0 h1 h2 true hok)
      have hsm := fun W h3 h4 => Rn.small_any p t A B c d W h3 h4 8
      rw [show (decide (chk p t = 0) && decide ((t.length : Int) ≤ 8)) = false by
        rcases Classical.em (chk p t = 0) with h9 | h9
        · rw [decide_eq_false (show ¬ (t.length : Int) ≤ 8 by omega), Bool.and_false]
        · rw [decide_eq_false h9, Bool.false_and]] at hsm
      have HSM := Lib.hid hsm
      clear h0 h1 h2 hsm hok
      go_enter Tryz.func5, Tryz.ntmps5
      go_upto_region 3 with fail
      have HX := Lib.hid ((Bx.made w (.slice A p.length c) (.slice B t.length d) 24).step (below_new _ (.cells #[.int .u8 n0, .int .u8 n1, .int .u8 n2] 25)))
      have hx9 := blk_new (w.alloc (.cells #[.slice A p.length c, .slice B t.length d] 24)) (.cells #[.int .u8 n0, .int .u8 n1, .int .u8 n2] 25)
      have hz9 : (w.alloc (.cells #[.slice A p.length c, .slice B t.length d] 24)).heap.size = w.heap.size + 1 := by simp
      rw [hz9] at hx9
      generalize (w.alloc (.cells #[.slice A p.length c, .slice B t.length d] 24)).alloc (.cells #[.int .u8 n0, .int .u8 n1, .int .u8 n2] 25) = W1 at *
      have c0 := HX.out.2.2.1
      have c1 := HX.out.2.2.2
      have d0 := blk_cell hx9 0 (by simp)
      have d1 := blk_cell hx9 1 (by simp)
      have d2 := blk_cell hx9 2 (by simp)
      simp at d0 d1 d2
      have hlt9 := lt_of_blk hx9
      clear hx9 hz9
      go_wp2_with fail
      refine (HMD.out _ (HX.out.sl HS.out) (HX.out.sl HT.out)).mono ?_
      rintro e W2 ⟨rfl, hb2⟩
      have HX2 := Lib.hid (HX.out.step hb2)
      clear hb2 HX c0 c1 d0 d1 d2 HMD
      simp only [mpOf]
      have HX3 := Lib.hid (HX2.out.step (below_new W2 (.cells #[.int .i64 (kgOf n0 true), .int .i64 (kgOf n1 true), .int .i64 (1 + n2 / 4 % 4), .int .i64 (n2 % 4)] 30)))
      have c0 := HX3.out.2.2.1
      have c1 := HX3.out.2.2.2
      go_wp2_with fail
      refine (HSM.out _ (HX3.out.sl HS.out) (HX3.out.sl HT.out)).mono ?_
      rintro e W3 ⟨rfl, hb3⟩
      have HX4 := Lib.hid (HX3.out.step hb3)
      clear hb3 c0 c1
      go_wp2_with fail
      refine (HAW.out _).mono ?_
      rintro e w5 ⟨rfl, hb5⟩
      have HB5 := Lib.hid (HX4.out.1.trans (hb5.mono HX4.out.1.size))
      clear hb5
      go_wp2_with fail
      go_ret
      exact ⟨rfl, HB5.out⟩
  · have i1 : (150 : Int) < (l.length : Int) := by omega
    have hb0 := (below_new w (.cells #[.slice A p.length c, .slice B t.length d] 24)).trans ((below_new (w.alloc (.cells #[.slice A p.length c, .slice B t.length d] 24)) (.cells #[.int .u8 n0, .int .u8 n1, .int .u8 n2] 25)).mono (by simp))
    have HB0 := Lib.hid hb0
    clear hb0
    go_enter Tryz.func5, Tryz.ntmps5
    go_wp2_with fail
    refine (HAW.out _).mono ?_
    rintro e w5 ⟨rfl, hb5⟩
    have HB5 := Lib.hid (HB0.out.trans (hb5.mono HB0.out.size))
    clear hb5
    go_wp2_with fail
    go_ret
    exact ⟨rfl, HB5.out⟩
end
theorem ahead_law (w : World) (A B : Option Addr) (c d : Nat) (p t : List Int) (_hc : p.length ≤ c) (_hm : c ≤ maxLen) (_hd : t.length ≤ d) (_hn : d ≤ maxLen) (hs : Sl w w.heap.size A (p.flatMap decI)) (ht : Sl w w.heap.size B (t.flatMap decI)) (n : List Int) (hn : n.length = 3 ∧ ∀ a ∈ n, isU8 a)
    (C : Option Addr) (cap : Nat) (l : List Ac) (hlc : l.length ≤ cap) (hcm : cap ≤ maxLen) (_w0 : ∀ e ∈ l, isI64 e.kind ∧ isI64 e.i) (hl : Sl w w.heap.size C (l.flatMap decAc)) :
    Calls Tryz.prog 5 #[(.agg #[.slice A p.length c, .slice B t.length d]), .agg (n.flatMap fun n => [.int .u8 n]).toArray, .slice C l.length cap] w fun e w' => e = .returned (.bool true) ∧ Below w.heap.size w w' := by
  obtain ⟨n0, n1, n2, rfl⟩ := list3 hn.1
  exact ahead_walk p t A B c d w hs ht n0 n1 n2 (hn.2 n0 (by simp)) (hn.2 n1 (by simp)) (hn.2 n2 (by simp)) C cap l hlc hcm hl
end Go.Proofs.YtfnmggmgdmokcaaGreat.Cm

