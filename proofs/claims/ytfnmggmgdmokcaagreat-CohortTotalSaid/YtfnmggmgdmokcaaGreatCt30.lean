/- Merged texts: Cm23. -/
import Derived.Test.YtfnmggmgdmokcaaGreatCt29
import Derived.Lib.QuietBelow
set_option linter.unusedVariables false
/- The law CohortTotal: from a thread's local doorway tO its entry no more enter than is told. -/
namespace Go.Proofs.YtfnmggmgdmokcaaGreat.Cm
open Go.RowKit Go.Sort Go.Proofs.YtfnmggmgdmokcaaGreat.Tp Go.Proofs.YtfnmggmgdmokcaaGreat.Ara Go.Proofs.YtfnmggmgdmokcaaGreat.Lok Go.Proofs.YtfnmggmgdmokcaaGreat.Fl Go.Proofs.YtfnmggmgdmokcaaGreat.Co


def rwN (N : Nat) (f : Nat → Nat) : List Int := (List.range N).map fun u => ((f u : Nat) : Int)
def ToC (w : World) (cd : Cd) (P : Pm) (x0 : CS) (pr : Nat) (arr : Array Value) (X Y : Value) (C : Option Addr) (cap n N : Nat) (a : Act) (W : World) : Prop :=
  a.tmps.size = 196 ∧ a.defers = [] ∧ a.tmps.getD 2 undef = .slice C n cap ∧ a.tmps.getD 3 undef = .pointer (some ⟨w.heap.size, 0, none⟩) ∧ a.tmps.getD 8 undef = .pointer (some ⟨cd.gl, 0, none⟩) ∧ a.tmps.getD 9 undef = .pointer (some ⟨pr, 0, none⟩) ∧
    ∃ B0 g1 g2, a.tmps.getD 11 undef = .slice (some ⟨g1, 0, none⟩) N N ∧ a.tmps.getD 12 undef = .slice (some ⟨g2, 0, none⟩) N N ∧ ToW w cd P x0 B0 pr g1 g2 arr (List.replicate N 0) (List.replicate N 0) X Y W
def ToJ (w : World) (cd : Cd) (P : Pm) (B0 pr g1 g2 : Nat) (arr : Array Value) (X Y : Value) (C : Option Addr) (cap : Nat) (l : List Ac) (N : Nat) (a : Act) (W : World) : Prop :=
  a.tmps.size = 196 ∧ a.defers = [] ∧ a.tmps.getD 2 undef = .slice C l.length cap ∧ a.tmps.getD 3 undef = .pointer (some ⟨w.heap.size, 0, none⟩) ∧ a.tmps.getD 8 undef = .pointer (some ⟨cd.gl, 0, none⟩) ∧ a.tmps.getD 9 undef = .pointer (some ⟨pr, 0, none⟩) ∧ a.tmps.getD 11 undef = .slice (some ⟨g1, 0, none⟩) N N ∧ a.tmps.getD 12 undef = .slice (some ⟨g2, 0, none⟩) N N ∧
    ∃ (k : Nat) (x : CS) (same all : Nat → Nat), a.tmps.getD 13 undef = .int .i64 (k : Int) ∧ k ≤ l.length ∧ Tt P x (33 + k) same all ∧ ToW w cd P x B0 pr g1 g2 arr (rwN N same) (rwN N all) X Y W
def ToI (w : World) (cd : Cd) (P : Pm) (B0 pr g1 g2 : Nat) (arr : Array Value) (X Y : Value) (C : Option Addr) (cap n N k : Nat) (i xp : Int) (x : CS) (L1 L2 : List Int) (f g : Nat → Bool) (a : Act) (W : World) : Prop :=
  a.tmps.size = 196 ∧ a.defers = [] ∧ a.tmps.getD 2 undef = .slice C n cap ∧ a.tmps.getD 3 undef = .pointer (some ⟨w.heap.size, 0, none⟩) ∧ a.tmps.getD 8 undef = .pointer (some ⟨cd.gl, 0, none⟩) ∧ a.tmps.getD 9 undef = .pointer (some ⟨pr, 0, none⟩) ∧ a.tmps.getD 11 undef = .slice (some ⟨g1, 0, none⟩) N N ∧ a.tmps.getD 12 undef = .slice (some ⟨g2, 0, none⟩) N N ∧ a.tmps.getD 13 undef = .int .i64 (k : Int) ∧ a.tmps.getD 14 undef = .int .i64 i ∧ a.tmps.getD 15 undef = .int .i64 xp ∧
    ∃ (j : Nat) (v1 v2 : Value), a.tmps.getD 18 undef = .int .i64 (j : Int) ∧ a.tmps.getD 16 undef = v1 ∧ a.tmps.getD 17 undef = v2 ∧ j ≤ N ∧ ToR B0 v1 v2 f g j j W ∧ ToW w cd P x B0 pr g1 g2 arr L1 L2 X Y W
def ToK (w : World) (cd : Cd) (P : Pm) (B0 pr g1 g2 : Nat) (arr : Array Value) (X Y : Value) (C : Option Addr) (cap n N k th : Nat) (x' : CS) (same all new1 new2 : Nat → Nat) (V1 V2 : Value) (f g : Nat → Bool) (a : Act) (W : World) : Prop :=
  a.tmps.size = 196 ∧ a.defers = [] ∧ a.tmps.getD 2 undef = .slice C n cap ∧ a.tmps.getD 3 undef = .pointer (some ⟨w.heap.size, 0, none⟩) ∧ a.tmps.getD 8 undef = .pointer (some ⟨cd.gl, 0, none⟩) ∧ a.tmps.getD 9 undef = .pointer (some ⟨pr, 0, none⟩) ∧ a.tmps.getD 11 undef = .slice (some ⟨g1, 0, none⟩) N N ∧ a.tmps.getD 12 undef = .slice (some ⟨g2, 0, none⟩) N N ∧ a.tmps.getD 13 undef = .int .i64 (k : Int) ∧ a.tmps.getD 14 undef = .int .i64 (th : Int) ∧ a.tmps.getD 16 undef = V1 ∧ a.tmps.getD 17 undef = V2 ∧
    ∃ v : Nat, a.tmps.getD 20 undef = .int .i64 (v : Int) ∧ v ≤ N ∧ ToR B0 V1 V2 f g N N W ∧ ToW w cd P x' B0 pr g1 g2 arr (paL N same new1 v) (paL N all new2 v) X Y W
theorem frame196 {a : Act} (h : a.tmps.size = 196) (hd : a.defers = []) : ∃ u : Nat → Value, a = { tmps := #[u 0, u 1, u 2, u 3, u 4, u 5, u 6, u 7, u 8, u 9, u 10, u 11, u 12, u 13, u 14, u 15, u 16, u 17, u 18, u 19, u 20, u 21, u 22, u 23, u 24, u 25, u 26, u 27, u 28, u 29, u 30, u 31, u 32, u 33, u 34, u 35, u 36, u 37, u 38, u 39, u 40, u 41, u 42, u 43, u 44, u 45, u 46, u 47, u 48, u 49, u 50, u 51, u 52, u 53, u 54, u 55, u 56, u 57, u 58, u 59, u 60, u 61, u 62, u 63, u 64, u 65, u 66, u 67, u 68, u 69, u 70, u 71, u 72, u 73, u 74, u 75, u 76, u 77, u 78, u 79, u 80, u 81, u 82, u 83, u 84, u 85, u 86, u 87, u 88, u 89, u 90, u 91, u 92, u 93, u 94, u 95, u 96, u 97, u 98, u 99, u 100, u 101, u 102, u 103, u 104, u 105, u 106, u 107, u 108, u 109, u 110, u 111, u 112, u 113, u 114, u 115, u 116, u 117, u 118, u 119, u 120, u 121, u 122, u 123, u 124, u 125, u 126, u 127, u 128, u 129, u 130, u 131, u 132, u 133, u 134, u 135, u 136, u 137, u 138, u 139, u 140, u 141, u 142, u 143, u 144, u 145, u 146, u 147, u 148, u 149, u 150, u 151, u 152, u 153, u 154, u 155, u 156, u 157, u 158, u 159, u 160, u 161, u 162, u 163, u 164, u 165, u 166, u 167, u 168, u 169, u 170, u 171, u 172, u 173, u 174, u 175, u 176, u 177, u 178, u 179, u 180, u 181, u 182, u 183, u 184, u 185, u 186, u 187, u 188, u 189, u 190, u 191, u 192, u 193, u 194, u 195], defers := [] } ∧ ∀ n, a.tmps.getD n undef = u n := by
  refine ⟨fun n => a.tmps.getD n undef, ?_, fun _ => rfl⟩
  have h1 := arr_lit a.tmps h
  cases a with
  | mk t d =>
    simp only at hd h1
    subst hd
    congr 1



section
variable (p t : List Int) (A B : Option Addr) (c d : Nat) (w : World) (hs : Sl w w.heap.size A (p.flatMap decI)) (ht : Sl w w.heap.size B (t.flatMap decI)) (n0 n1 n2 : Int) (h0 : 0 ≤ n0 ∧ n0 ≤ 255) (h1 : 0 ≤ n1 ∧ n1 ≤ 255) (h2 : 0 ≤ n2 ∧ n2 ≤ 255) (C : Option Addr) (cap : Nat) (l : List Ac) (hlc : l.length ≤ cap) (hcm : cap ≤ maxLen) (hl : Sl w w.heap.size C (l.flatMap decAc))
include hs ht h0 h1 h2 hlc hcm hl
set_option maxRecDepth 100000 in
set_option maxHeartbeats 200000000 in
theorem total_walk : Calls Tryz.prog 6 #[(.agg #[.slice A p.length c, .slice B t.length d]), .agg #[.int .u8 n0, .int .u8 n1, .int .u8 n2], .slice C l.length cap] w fun e w' => e = .returned (.bool true) ∧ Below w.heap.size w w' := by
  have HAW := Lib.hid (fun W => awake_any W)
  have i9 : (l.length : Int) ≤ 9223372036854775807 := by simp only [maxLen] at hcm; omega
  have HS := Lib.hid hs
  have HT := Lib.hid ht
  have HLS := Lib.hid hl
  clear hs ht hl
  by_cases hlen : l.length ≤ 150
  · have i1 : ¬ (150 : Int) < (l.length : Int) := by omega
    by_cases hok : chk p t = 0 ∧ t.length ≤ 8
    · obtain ⟨hck, h8⟩ := hok
      obtain ⟨l1, l2, l3, l4⟩ := chk_len hck
      have HMD := Lib.hid (fun W h3 h4 => made_ok p t A B c d W h3 h4 n0 n1 n2 h0 h1 h2 true hck h8)
      have HND := Lib.hid (fun W h3 h4 k hk => Rn.rnode_in p t A B c d W h3 h4 hck k hk)
      have HMT := Lib.hid (fun W h3 h4 n => Rn.rmates_in p t A B c d W h3 h4 hck n)
      have q1 := fun a b c d W => fld0 a b c d W
      have HOK := Lib.hid (show (mwOf p t n0 n1 n2 true).Ok from nw_ok hck (by unfold kgOf; rw [if_pos rfl]; omega) (by unfold kgOf; rw [if_pos rfl]; omega) (by omega) (by omega))
      have HRM := Lib.hid (show (mwOf p t n0 n1 n2 true).tN (Ar.fresh 4096).t (mwOf p t n0 n1 n2 true).NN ≤ (Ar.fresh 4096).ws.length from nw_fits hck HOK.out (by omega))
      have HDJ := Lib.hid (Nw.dj HOK.out HRM.out)
      have hn4 : 0 ≤ n2 % 4 ∧ n2 % 4 ≤ 3 := by omega
      have HBR := Lib.hid (show Bud.right ((mwOf p t n0 n1 n2 true).pm (Ar.fresh 4096)).B = true from Bud.right_iff.2 ⟨by show 0 ≤ n2 % 4; omega, by show n2 % 4 ≤ 1000; omega⟩)
      have HA0 := Lib.hid (Nw.tt HOK.out HRM.out (fun k _ => zeros_at 4096 k) (by decide) (by show 2 ≤ kgOf n0 true; unfold kgOf; rw [if_pos rfl]; omega) (by show 2 ≤ kgOf n1 true; unfold kgOf; rw [if_pos rfl]; omega) (m := 33) (by show 0 + (lvs p).length + 1 ≤ 33; have := lvs_len p; omega))
      have HDR := Lib.hid (show 1 ≤ dr ((mwOf p t n0 n1 n2 true).pm (Ar.fresh 4096)).pg from pk_dr (kind := kgOf n0 true) ⟨by unfold kgOf; rw [if_pos rfl]; omega, by unfold kgOf; rw [if_pos rfl]; omega⟩)
      have HPT := Lib.hid (show ((mwOf p t n0 n1 n2 true).pm (Ar.fresh 4096)).T = t.length ∧ (∀ k, ((mwOf p t n0 n1 n2 true).pm (Ar.fresh 4096)).nd k = ndI p t k) ∧ (∀ n, ((mwOf p t n0 n1 n2 true).pm (Ar.fresh 4096)).mt n = max 1 (mtI p t n)) ∧ ((mwOf p t n0 n1 n2 true).pm (Ar.fresh 4096)).NN = (lvs p).length ∧ ((mwOf p t n0 n1 n2 true).pm (Ar.fresh 4096)).B = n2 % 4 from ⟨rfl, fun _ => rfl, fun _ => rfl, rfl, rfl⟩)
      have HJ := Lib.hid (show Sj ((mwOf p t n0 n1 n2 true).pm (Ar.fresh 4096)) from fun k hk s hs => nd_sjo hck hk (by have h9 := nd_some hck hk; have h8 : s < max 1 (mtI p t (ndI p t k)) := hs; omega))
      have hL := fun W h1 h2 => rleaves_any p t A B c d W (by omega) (by omega) h1 h2
      rw [lvT_ok hck] at hL
      have HLV := Lib.hid hL
      have hLL := lvs_len p
      have hpos : 1 ≤ (lvs p).length := List.length_pos_iff.2 (lvs_ne (chk_ok hck).2.1 l1)
      have HMM := Lib.hid (fun k hk => mtN_mt (p := p) (t := t) (k := k) hck hk)
      have hmk := fun W => make_ints t.length (by omega) W
      clear h0 h1 h2 hL
      go_enter Tryz.func6, Tryz.ntmps6
      go_upto_region 3 with fail
      have HX := Lib.hid ((Bx.made w (.slice A p.length c) (.slice B t.length d) 24).step (below_new _ (.cells #[.int .u8 n0, .int .u8 n1, .int .u8 n2] 25)))
      have hx9 := blk_new (w.alloc (.cells #[.slice A p.length c, .slice B t.length d] 24)) (.cells #[.int .u8 n0, .int .u8 n1, .int .u8 n2] 25)
      have hz9 : (w.alloc (.cells #[.slice A p.length c, .slice B t.length d] 24)).heap.size = w.heap.size + 1 := by simp
      rw [hz9] at hx9
      generalize (w.alloc (.cells #[.slice A p.length c, .slice B t.length d] 24)).alloc (.cells #[.int .u8 n0, .int .u8 n1, .int .u8 n2] 25) = W1 at *
      have c0 := HX.out.2.2.1
      have c1 := HX.out.2.2.2
      have d0 := blk_cell hx9 0 (by simp)
      have d1 := blk_cell hx9 1 (by simp)
      have d2 := blk_cell hx9 2 (by simp)
      simp at d0 d1 d2
      have hlt9 := lt_of_blk hx9
      clear hx9 hz9
      go_wp2_with fail
      refine (HMD.out _ (HX.out.sl HS.out) (HX.out.sl HT.out)).mono ?_
      rintro e W2 ⟨cd, rfl, hK, hcol, hb2⟩
      have HCOL := Lib.hid (show ∀ q, q < w.heap.size + 1 → cd.col q = 0 from fun q hq => hcol q (by omega))
      generalize (mwOf p t n0 n1 n2 true).pm (Ar.fresh 4096) = P at *
      generalize (mwOf p t n0 n1 n2 true).st (Ar.fresh 4096) = x0 at *
      have HX2 := Lib.hid (HX.out.step hb2)
      have hfr := hK.s.fresh
      have hhi := hK.hi
      have hW2 := HX2.out.2.1
      simp only [mpOf]
      have hW3 : (W2.alloc (.cells #[.int .i64 (kgOf n0 true), .int .i64 (kgOf n1 true), .int .i64 (1 + n2 / 4 % 4), .int .i64 (n2 % 4)] 30)).heap.size = W2.heap.size + 1 := by simp
      have hb3 := below_new W2 (.cells #[.int .i64 (kgOf n0 true), .int .i64 (kgOf n1 true), .int .i64 (1 + n2 / 4 % 4), .int .i64 (n2 % 4)] 30)
      have HK3 := Lib.hid (hK.same hb3)
      have HX3 := Lib.hid (HX2.out.step hb3)
      have HQ3 := Lib.hid (blk_new W2 (.cells #[.int .i64 (kgOf n0 true), .int .i64 (kgOf n1 true), .int .i64 (1 + n2 / 4 % 4), .int .i64 (n2 % 4)] 30))
      have HC3 := Lib.hid (show (∀ q, W2.heap.size ≤ q → cd.col q = 0) ∧ Hi cd P.NN W2.heap.size ∧ w.heap.size < W2.heap.size from ⟨fun q hq => hfr q hq, hhi, hW2⟩)
      clear hK hcol hb2 HX c0 c1 d0 d1 d2 HMD HOK HRM hfr hhi hb3 hW2 HX2
      go_upto_region 4 with fail
      have HW3 := Lib.hid hW3
      clear hW3
      generalize W2.alloc (.cells #[.int .i64 (kgOf n0 true), .int .i64 (kgOf n1 true), .int .i64 (1 + n2 / 4 % 4), .int .i64 (n2 % 4)] 30) = W3 at *
      generalize hpr : W2.heap.size = pr at *
      clear hpr
      have c1 := HX3.out.2.2.2
      go_upto_region 6 with fail
      refine wp_cut (ToC w cd P x0 pr #[.int .i64 (kgOf n0 true), .int .i64 (kgOf n1 true), .int .i64 (1 + n2 / 4 % 4), .int .i64 (n2 % 4)] (.slice A p.length c) (.slice B t.length d) C cap l.length t.length) ?_ ?_
      rotate_left
      · intro J K' hJ hK'
        have HKd := Lib.hid (HK3.out.same (below_drewN (Below.refl _ _) 1))
        have HXd := Lib.hid (HX3.out.step (below_drewN (Below.refl _ _) 1))
        have hd1 : W3.drew.cell? ⟨w.heap.size, 1, none⟩ = some (.slice B t.length d) := c1
        have HQd := Lib.hid (show W3.drew.heap[pr]? = some (.cells #[.int .i64 (kgOf n0 true), .int .i64 (kgOf n1 true), .int .i64 (1 + n2 / 4 % 4), .int .i64 (n2 % 4)] 30 (0, 0)) from HQ3.out)
        have HWd := Lib.hid (show W3.drew.heap.size = pr + 1 from HW3.out)
        refine wp_region_held_drew (S := fun V => V.cell? ⟨w.heap.size, 1, none⟩ = some (.slice B t.length d)) (by kernel_rfl) hd1 (fun hHeld => ?_)
        have HXd : Hid (Bx w W3.drew (.slice A p.length c) (.slice B t.length d)) := HXd
        have HKd : Hid (CoAt W3.drew cd P x0) := HKd
        clear c1 hd1 HX3 HK3 HQ3 HW3
        generalize W3.drew = X0 at *
        obtain ⟨hN1, hN2⟩ := ToW.new2 HKd.out HXd.out HQd.out HC3.out HWd.out (List.replicate t.length 0)
        have HN1 := Lib.hid hN1
        have HN2 := Lib.hid hN2
        have s1 : (X0.alloc (.cells (its (List.replicate t.length 0)) 3)).cell? ⟨w.heap.size, 1, none⟩ = some (.slice B t.length d) := (HXd.out.step (below_new _ _)).2.2.2
        have s2 := hN1.b.2.2.2
        have hsz0 := HWd.out
        clear hN1 hN2
        refine take_to 0 (some 44) (v := ?_) rfl rfl (by kernel_rfl) (by kernel_rfl) (by kernel_rfl) (fun _ _ _ h => h) (Or.inl ⟨by rfl, ?_⟩) (by first | trivial | assumption) ?_
        rotate_left
        focus (intro w hSw; (try dsimp only at hSw); go_simp; (try with_reducible rfl))
        simp only [Act.put, List.setIfInBounds_toArray, List.set_cons_zero, List.set_cons_succ]
        refine take_to 1 (some 45) (v := ?_) rfl rfl (by kernel_rfl) (by kernel_rfl) (by kernel_rfl) (fun _ _ _ h => h) (Or.inl ⟨by rfl, ?_⟩) (by first | trivial | assumption) ?_
        rotate_left
        focus (intro w hSw; (try dsimp only at hSw); go_simp; (try with_reducible rfl))
        simp only [Act.put, List.setIfInBounds_toArray, List.set_cons_zero, List.set_cons_succ]
        refine take_to 2 (some 46) (v := ?_) rfl rfl (by kernel_rfl) (by kernel_rfl) (by kernel_rfl) (fun _ _ _ h => h) (Or.inl ⟨by rfl, ?_⟩) (by first | trivial | assumption) ?_
        rotate_left
        focus (intro w hSw; (try dsimp only at hSw); go_simp; (try with_reducible rfl))
        simp only [Act.put, List.setIfInBounds_toArray, List.set_cons_zero, List.set_cons_succ]
        refine take_to 4 (some 48) (v := ?_) rfl rfl (by kernel_rfl) (by kernel_rfl) (by kernel_rfl) (fun _ _ _ h => h) (Or.inl ⟨by rfl, ?_⟩) (by first | trivial | assumption) ?_
        rotate_left
        focus (intro w hSw; (try dsimp only at hSw); go_simp; (try with_reducible rfl))
        simp only [Act.put, List.setIfInBounds_toArray, List.set_cons_zero, List.set_cons_succ]
        refine take_to 5 (some 49) (v := ?_) rfl rfl (by kernel_rfl) (by kernel_rfl) (by kernel_rfl) (fun _ _ _ h => h) (Or.inl ⟨by rfl, ?_⟩) (by first | trivial | assumption) ?_
        rotate_left
        focus (intro w hSw; (try dsimp only at hSw); go_simp; (try with_reducible rfl))
        simp only [Act.put, List.setIfInBounds_toArray, List.set_cons_zero, List.set_cons_succ]
        refine take_to 6 (some 50) (v := ?_) rfl rfl (by kernel_rfl) (by kernel_rfl) (by kernel_rfl) (fun _ _ _ h => h) (Or.inl ⟨by rfl, ?_⟩) (by first | trivial | assumption) ?_
        rotate_left
        focus (intro w hSw; (try dsimp only at hSw); go_simp; (try with_reducible rfl))
        simp only [Act.put, List.setIfInBounds_toArray, List.set_cons_zero, List.set_cons_succ]
        refine wpAnyH_ready (rs := [3, 7]) (by kernel_rfl) (by simp) ?_
        refine AllReadyH.cons rfl (fun K hK => ?_) (AllReadyH.cons rfl (fun K hK => ?_) AllReadyH.nil)
        · go_simp
          refine hK.out _ _ s1 (fun hHeld => ?_)
          refine take_to 8 (some 11) (v := ?_) rfl rfl (by kernel_rfl) (by kernel_rfl) (by kernel_rfl) (fun _ _ _ h => h) (Or.inl ⟨by rfl, ?_⟩) (by first | trivial | assumption) ?_
          rotate_left
          focus (intro w hSw; (try dsimp only at hSw); go_simp; (try with_reducible rfl))
          simp only [Act.put, List.setIfInBounds_toArray, List.set_cons_zero, List.set_cons_succ]
          refine wpAnyH_ready (rs := [7]) (by kernel_rfl) (by simp) ?_
          refine AllReadyH.cons rfl (fun K hK => ?_) AllReadyH.nil
          go_simp
          refine hK.out _ _ s2 (fun hHeld => ?_)
          refine take_to 9 (some 12) (v := ?_) rfl rfl (by kernel_rfl) (by kernel_rfl) (by kernel_rfl) (fun _ _ _ h => h) (Or.inl ⟨by rfl, ?_⟩) (by first | trivial | assumption) ?_
          rotate_left
          focus (intro w hSw; (try dsimp only at hSw); go_simp; (try with_reducible rfl))
          simp only [Act.put, List.setIfInBounds_toArray, List.set_cons_zero, List.set_cons_succ]
          refine wpAnyH_done (by kernel_rfl) ?_ _
          exact hK' _ _ (Met.intro (hJ _ _ ⟨rfl, rfl, rfl, rfl, rfl, rfl, pr + 3, pr + 1, pr + 2, by simp [hsz0], by simp [hsz0], HN1.out⟩))
        · go_simp
          refine hK.out _ _ s1 (fun hHeld => ?_)
          refine wpAnyH_ready (rs := [3]) (by kernel_rfl) (by simp) ?_
          refine AllReadyH.cons rfl (fun K hK => ?_) AllReadyH.nil
          go_simp
          refine hK.out _ _ s2 (fun hHeld => ?_)
          refine take_to 8 (some 11) (v := ?_) rfl rfl (by kernel_rfl) (by kernel_rfl) (by kernel_rfl) (fun _ _ _ h => h) (Or.inl ⟨by rfl, ?_⟩) (by first | trivial | assumption) ?_
          rotate_left
          focus (intro w hSw; (try dsimp only at hSw); go_simp; (try with_reducible rfl))
          simp only [Act.put, List.setIfInBounds_toArray, List.set_cons_zero, List.set_cons_succ]
          refine take_to 9 (some 12) (v := ?_) rfl rfl (by kernel_rfl) (by kernel_rfl) (by kernel_rfl) (fun _ _ _ h => h) (Or.inl ⟨by rfl, ?_⟩) (by first | trivial | assumption) ?_
          rotate_left
          focus (intro w hSw; (try dsimp only at hSw); go_simp; (try with_reducible rfl))
          simp only [Act.put, List.setIfInBounds_toArray, List.set_cons_zero, List.set_cons_succ]
          refine wpAnyH_done (by kernel_rfl) ?_ _
          exact hK' _ _ (Met.intro (hJ _ _ ⟨rfl, rfl, rfl, rfl, rfl, rfl, pr + 3, pr + 2, pr + 1, by simp [hsz0], by simp [hsz0], HN2.out⟩))
      clear HX3 HK3 HQ3 HW3 HC3 c1 hmk
      rintro a' W5 ⟨hsz, hdf, s2, s3, s8, s9, B0, g1, g2, s11, s12, hW5⟩
      obtain ⟨u, rfl, hu⟩ := frame196 hsz hdf
      rw [hu] at s2 s3 s8 s9 s11 s12
      simp only [s2, s3, s8, s9, s11, s12]
      clear hsz hdf s2 s3 s8 s9 s11 s12 hu
      have HW5 := Lib.hid hW5
      clear hW5
      go_wp2_with fail
      refine wp_loop (ToJ w cd P B0 pr g1 g2 #[.int .i64 (kgOf n0 true), .int .i64 (kgOf n1 true), .int .i64 (1 + n2 / 4 % 4), .int .i64 (n2 % 4)] (.slice A p.length c) (.slice B t.length d) C cap l t.length) (fun a' _ => l.length - (intOf (a'.tmps.getD 13 undef)).toNat) ?_ ?_
      · exact ⟨rfl, rfl, rfl, rfl, rfl, rfl, rfl, rfl, 0, x0, _, _, rfl, Nat.zero_le _, HA0.out, by
          rw [show rwN t.length (fun _ => 0) = List.replicate t.length 0 from by unfold rwN; rw [List.map_const', List.length_range]; rfl]
          exact HW5.out⟩
      · clear HW5 HA0
        rintro a' W ⟨hsz, hdf, s2, s3, s8, s9, s11, s12, k, x, same, all, s13, hk, hT, hL⟩
        obtain ⟨u, rfl, hu⟩ := frame196 hsz hdf
        rw [hu] at s2 s3 s8 s9 s11 s12 s13
        simp only [s2, s3, s8, s9, s11, s12, s13]
        clear hsz hdf s2 s3 s8 s9 s11 s12 s13 hu
        have HL := Lib.hid hL
        have HTt := Lib.hid hT
        clear hT
        by_cases hlt : k < l.length
        · have i2 : (k : Int) < (l.length : Int) := by omega
          obtain ⟨b, off, rfl, hbb, hcell⟩ := Sl_at (dec := decAc) (k := 2) (fun _ => rfl) (by omega) HLS.out (by omega)
          have e0 := hcell k hlt 0 (by omega)
          have e1 := hcell k hlt 1 (by omega)
          simp only [decAc, List.getElem?_cons_zero, List.getElem?_cons_succ, Nat.add_zero, ← Nat.add_assoc] at e0 e1
          generalize l[k] = ac at *
          obtain ⟨kd, i⟩ := ac
          simp only at e0 e1
          have HE := Lib.hid (fun W' (h : Below w.heap.size w W') => And.intro ((h.cell (p := ⟨b, off + k * 2, none⟩) hbb).trans e0) ((h.cell (p := ⟨b, off + k * 2 + 1, none⟩) hbb).trans e1))
          clear e0 e1 hcell
          obtain ⟨e0, e1⟩ := HE.out W hL.b.1
          have HSP := Lib.hid (spot_co hL.k i)
          have HSPA := Lib.hid (fun W' (K' : CoAt W' cd P x) (j : Int) => spot_co K' j)
          have HPSA := Lib.hid (fun W' (K' : CoAt W' cd P x) (j : Int) => passed_co K' HDJ.out j)
          have HGLA := Lib.hid (fun W' (K' : CoAt W' cd P x) (j : Int) => global_co K' j)
          have HD := Lib.hid (fun W' (K' : CoAt W' cd P x) => do_co K' HDJ.out HTt.out.ci (by omega) HBR.out kd i)
          have HWT := Lib.hid (fun j (hj : j < t.length) => show (pasB P x (j : Int) && decide ((spOf x.S (j : Int)).pc < 10)) = wtB P x j from waits_pas HDJ.out HTt.out (by rw [HPT.out.1]; exact hj))
          generalize hsp : spOf x.S i = sp at *
          have HSX := Lib.hid hsp
          clear hsp hL
          obtain ⟨xp, xa, xb, xc⟩ := sp
          simp only at HSP
          go_wp2_with fail
          refine HSP.out.mono ?_
          rintro e w6 ⟨rfl, hb6⟩
          have HL6 := Lib.hid (HL.out.same hb6)
          clear hb6 HL HSP e0 e1
          go_wp2_with fail
          refine wp_loop (ToI w cd P B0 pr g1 g2 #[.int .i64 (kgOf n0 true), .int .i64 (kgOf n1 true), .int .i64 (1 + n2 / 4 % 4), .int .i64 (n2 % 4)] (.slice A p.length c) (.slice B t.length d) (some ⟨b, off, none⟩) cap l.length t.length k i xp x (rwN t.length same) (rwN t.length all) (wtB P x) (ctB P x)) (fun a' _ => t.length - (intOf (a'.tmps.getD 18 undef)).toNat) ?_ ?_
          · exact ⟨rfl, rfl, rfl, rfl, rfl, rfl, rfl, rfl, rfl, rfl, rfl, 0, _, _, rfl, rfl, rfl, Nat.zero_le _, ToR.nil _ _ _ _, HL6.out⟩
          · clear HL6
            rintro a' W5 ⟨hsz, hdf, s2, s3, s8, s9, s11, s12, s13, s14, s15, j, v1, v2, s18, s16, s17, hj, hR5, hL5⟩
            obtain ⟨u, rfl, hu⟩ := frame196 hsz hdf
            rw [hu] at s2 s3 s8 s9 s11 s12 s13 s14 s15 s18 s16 s17
            simp only [s2, s3, s8, s9, s11, s12, s13, s14, s15, s18, s16, s17]
            clear hsz hdf s2 s3 s8 s9 s11 s12 s13 s14 s15 s18 s16 s17 hu
            have HL4 := Lib.hid hL5
            have HR4 := Lib.hid hR5
            have c1 := hL5.b.2.2.2
            clear hR5 hL5
            by_cases hjt : j < t.length
            · have i4 : (j : Int) < (t.length : Int) := by omega
              have HW9 := Lib.hid (HWT.out j hjt)
              have HSPj := Lib.hid (fun W' K' => HSPA.out W' K' (j : Int))
              have HPSj := Lib.hid (HPSA.out W5 HL4.out.k (j : Int))
              generalize hpb : pasB P x (j : Int) = pb at *
              clear hpb
              cases pb with
              | false =>
                have HFJ := Lib.hid (show wtB P x j = false from HW9.out.symm.trans (Bool.false_and _))
                go_wp2_with fail
                refine HPSj.out.mono ?_
                rintro e w5 ⟨rfl, hb5⟩
                have HL5 := Lib.hid (HL4.out.same hb5)
                have HR5 := Lib.hid (HR4.out.same hb5)
                clear hb5 HL4 HR4 c1 HPSj HSPj
                have HB5 := Lib.hid (show B0 ≤ w5.heap.size from HL5.out.base)
                go_upto_region 18 with (at_builtin; refine Tp.wpList_append1_at (.tmp 84) (.tmp 86) 50 4 _ 1 1 rfl rfl Tryz.underlying50 infoB rfl (by decide) B0 _ _ _ _ _ _ _ _ HR5.out.o1 rfl rfl ?cgANU1 rfl ?d1ANU1 ?d2ANU1 ?d3ANU1 ?d4ANU1 ?ckANU1; case' ckANU1 => (intro v1' w6 hown6 hg6 hn6))
                case cgANU1 => first | rfl | simp
                case d1ANU1 => simp [Value.oneCell']
                case d2ANU1 => simp only [maxLen]; omega
                case d3ANU1 => omega
                case d4ANU1 => exact HB5.out
                have HL6 := Lib.hid (HL5.out.own HR5.out.o1 hg6.out)
                have HR6 := Lib.hid (HR5.out.grow1 (by rw [HFJ.out]; exact hown6.out) hg6.out hn6.out)
                clear hown6 hg6 hn6 HL5 HR5 HB5
                have HGJ := Lib.hid (show ctB P x j = false by unfold ctB; rw [HFJ.out, Bool.false_and])
                have HL7 := HL6
                have HR7 := HR6
                have HB7 := Lib.hid (show B0 ≤ w6.heap.size from HL7.out.base)
                go_wp2_with (at_builtin; refine Tp.wpList_append1_at (.tmp 88) (.tmp 98) 50 4 _ 1 1 rfl rfl Tryz.underlying50 infoB rfl (by decide) B0 _ _ _ _ _ _ _ _ HR7.out.o2 rfl rfl ?cgBNU1 rfl ?d1BNU1 ?d2BNU1 ?d3BNU1 ?d4BNU1 ?ckBNU1; case' ckBNU1 => (intro v2' w8 hown8 hg8 hn8))
                case cgBNU1 => first | rfl | simp
                case d1BNU1 => simp [Value.oneCell']
                case d2BNU1 => simp only [maxLen]; omega
                case d3BNU1 => omega
                case d4BNU1 => exact HB7.out
                have HL8 := Lib.hid (HL7.out.own HR7.out.o2 hg8.out)
                have HR8 := Lib.hid (HR7.out.grow2 (by rw [HGJ.out]; exact hown8.out) hg8.out hn8.out)
                clear hown8 hg8 hn8 HL7 HR7 HB7
                go_wp2_with fail
                go_roundw
                case rel => exact ⟨rfl, rfl, rfl, rfl, rfl, rfl, rfl, rfl, rfl, rfl, rfl, j + 1, v1', v2', by go_num, rfl, rfl, by omega, HR8.out, HL8.out⟩
                case measure => simp [intOf]; omega
              | true =>
                by_cases hpc : (spOf x.S (j : Int)).pc < 10
                · have HFJ := Lib.hid (show wtB P x j = true by rw [← HW9.out, decide_eq_true hpc]; rfl)
                  generalize spOf x.S (j : Int) = sp2 at *
                  obtain ⟨zp, za, zb, zc⟩ := sp2
                  simp only at HSPj hpc
                  go_wp2_with fail
                  refine HPSj.out.mono ?_
                  rintro e w4 ⟨rfl, hb4⟩
                  have HL5' := Lib.hid (HL4.out.same hb4)
                  have HR5' := Lib.hid (HR4.out.same hb4)
                  clear hb4 HL4 HR4 c1 HPSj
                  go_wp2_with fail
                  refine (HSPj.out _ HL5'.out.k).mono ?_
                  rintro e w5 ⟨rfl, hb5⟩
                  have HL5 := Lib.hid (HL5'.out.same hb5)
                  have HR5 := Lib.hid (HR5'.out.same hb5)
                  have HB5 := Lib.hid (show B0 ≤ w5.heap.size from HL5.out.base)
                  clear hb5 HL5' HR5' HSPj
                  go_upto_region 18 with (at_builtin; refine Tp.wpList_append1_at (.tmp 84) (.tmp 86) 50 4 _ 1 1 rfl rfl Tryz.underlying50 infoB rfl (by decide) B0 _ _ _ _ _ _ _ _ HR5.out.o1 rfl rfl ?cgAU2 rfl ?d1AU2 ?d2AU2 ?d3AU2 ?d4AU2 ?ckAU2; case' ckAU2 => (intro v1' w6 hown6 hg6 hn6))
                  case cgAU2 => first | rfl | simp
                  case d1AU2 => simp [Value.oneCell']
                  case d2AU2 => simp only [maxLen]; omega
                  case d3AU2 => omega
                  case d4AU2 => exact HB5.out
                  have HL6 := Lib.hid (HL5.out.own HR5.out.o1 hg6.out)
                  have HR6 := Lib.hid (HR5.out.grow1 (by rw [HFJ.out]; exact hown6.out) hg6.out hn6.out)
                  clear hown6 hg6 hn6 HL5 HR5 HB5
                  have HGL := Lib.hid (fun W' K' => HGLA.out W' K' (ndI p t j : Int))
                  have HGB := Lib.hid (show ctB P x j = decide (2 ≤ gloV P x (ndI p t j : Int)) by unfold ctB; rw [HFJ.out, Bool.true_and, HPT.out.2.1 j])
                  generalize gloV P x (ndI p t j : Int) = gv at *
                  have c0 := HL6.out.b.2.2.1
                  have c1 := HL6.out.b.2.2.2
                  by_cases hgv : 2 ≤ gv
                  · have HGJ := Lib.hid (HGB.out.trans (decide_eq_true hgv))
                    go_wp2_with fail
                    refine (HND.out _ (HL6.out.b.sl HS.out) (HL6.out.b.sl HT.out) j hjt).mono ?_
                    rintro e w7 ⟨rfl, hb7⟩
                    have HL7' := Lib.hid (HL6.out.same hb7)
                    have HR7' := Lib.hid (HR6.out.same hb7)
                    clear hb7 HL6 HR6 c0 c1
                    go_wp2_with fail
                    refine (HGL.out _ HL7'.out.k).mono ?_
                    rintro e w8 ⟨rfl, hb8⟩
                    have HL7 := Lib.hid (HL7'.out.same hb8)
                    have HR7 := Lib.hid (HR7'.out.same hb8)
                    have HB7 := Lib.hid (show B0 ≤ w8.heap.size from HL7.out.base)
                    clear hb8 HL7' HR7'
                    go_wp2_with (at_builtin; refine Tp.wpList_append1_at (.tmp 88) (.tmp 98) 50 4 _ 1 1 rfl rfl Tryz.underlying50 infoB rfl (by decide) B0 _ _ _ _ _ _ _ _ HR7.out.o2 rfl rfl ?cgBU3 rfl ?d1BU3 ?d2BU3 ?d3BU3 ?d4BU3 ?ckBU3; case' ckBU3 => (intro v2' w8 hown8 hg8 hn8))
                    case cgBU3 => first | rfl | simp
                    case d1BU3 => simp [Value.oneCell']
                    case d2BU3 => simp only [maxLen]; omega
                    case d3BU3 => omega
                    case d4BU3 => exact HB7.out
                    have HL8 := Lib.hid (HL7.out.own HR7.out.o2 hg8.out)
                    have HR8 := Lib.hid (HR7.out.grow2 (by rw [HGJ.out]; exact hown8.out) hg8.out hn8.out)
                    clear hown8 hg8 hn8 HL7 HR7 HB7
                    go_wp2_with fail
                    go_roundw
                    case rel => exact ⟨rfl, rfl, rfl, rfl, rfl, rfl, rfl, rfl, rfl, rfl, rfl, j + 1, v1', v2', by go_num, rfl, rfl, by omega, HR8.out, HL8.out⟩
                    case measure => simp [intOf]; omega
                  · have HGJ := Lib.hid (HGB.out.trans (decide_eq_false hgv))
                    have g10 := decide_eq_false hgv
                    go_wp2_with fail
                    refine (HND.out _ (HL6.out.b.sl HS.out) (HL6.out.b.sl HT.out) j hjt).mono ?_
                    rintro e w7 ⟨rfl, hb7⟩
                    have HL7' := Lib.hid (HL6.out.same hb7)
                    have HR7' := Lib.hid (HR6.out.same hb7)
                    clear hb7 HL6 HR6 c0 c1
                    go_wp2_with fail
                    refine (HGL.out _ HL7'.out.k).mono ?_
                    rintro e w8 ⟨rfl, hb8⟩
                    have HL7 := Lib.hid (HL7'.out.same hb8)
                    have HR7 := Lib.hid (HR7'.out.same hb8)
                    have HB7 := Lib.hid (show B0 ≤ w8.heap.size from HL7.out.base)
                    clear hb8 HL7' HR7'
                    go_wp2_with (at_builtin; refine Tp.wpList_append1_at (.tmp 88) (.tmp 98) 50 4 _ 1 1 rfl rfl Tryz.underlying50 infoB rfl (by decide) B0 _ _ _ _ _ _ _ _ HR7.out.o2 rfl rfl ?cgBU4 rfl ?d1BU4 ?d2BU4 ?d3BU4 ?d4BU4 ?ckBU4; case' ckBU4 => (intro v2' w8 hown8 hg8 hn8))
                    case cgBU4 => first | rfl | simp
                    case d1BU4 => simp [Value.oneCell']
                    case d2BU4 => simp only [maxLen]; omega
                    case d3BU4 => omega
                    case d4BU4 => exact HB7.out
                    have HL8 := Lib.hid (HL7.out.own HR7.out.o2 hg8.out)
                    have HR8 := Lib.hid (HR7.out.grow2 (by rw [HGJ.out]; exact hown8.out) hg8.out hn8.out)
                    clear hown8 hg8 hn8 HL7 HR7 HB7
                    go_wp2_with fail
                    go_roundw
                    case rel => exact ⟨rfl, rfl, rfl, rfl, rfl, rfl, rfl, rfl, rfl, rfl, rfl, j + 1, v1', v2', by go_num, rfl, rfl, by omega, HR8.out, HL8.out⟩
                    case measure => simp [intOf]; omega
                · have HFJ := Lib.hid (show wtB P x j = false by rw [← HW9.out, decide_eq_false hpc]; rfl)
                  generalize spOf x.S (j : Int) = sp2 at *
                  obtain ⟨zp, za, zb, zc⟩ := sp2
                  simp only at HSPj hpc
                  have g10 := decide_eq_false hpc
                  go_wp2_with fail
                  refine HPSj.out.mono ?_
                  rintro e w4 ⟨rfl, hb4⟩
                  have HL5' := Lib.hid (HL4.out.same hb4)
                  have HR5' := Lib.hid (HR4.out.same hb4)
                  clear hb4 HL4 HR4 c1 HPSj
                  go_wp2_with fail
                  refine (HSPj.out _ HL5'.out.k).mono ?_
                  rintro e w5 ⟨rfl, hb5⟩
                  have HL5 := Lib.hid (HL5'.out.same hb5)
                  have HR5 := Lib.hid (HR5'.out.same hb5)
                  clear hb5 HL5' HR5' HSPj
                  have HB5 := Lib.hid (show B0 ≤ w5.heap.size from HL5.out.base)
                  go_upto_region 18 with (at_builtin; refine Tp.wpList_append1_at (.tmp 84) (.tmp 86) 50 4 _ 1 1 rfl rfl Tryz.underlying50 infoB rfl (by decide) B0 _ _ _ _ _ _ _ _ HR5.out.o1 rfl rfl ?cgANU5 rfl ?d1ANU5 ?d2ANU5 ?d3ANU5 ?d4ANU5 ?ckANU5; case' ckANU5 => (intro v1' w6 hown6 hg6 hn6))
                  case cgANU5 => first | rfl | simp
                  case d1ANU5 => simp [Value.oneCell']
                  case d2ANU5 => simp only [maxLen]; omega
                  case d3ANU5 => omega
                  case d4ANU5 => exact HB5.out
                  have HL6 := Lib.hid (HL5.out.own HR5.out.o1 hg6.out)
                  have HR6 := Lib.hid (HR5.out.grow1 (by rw [HFJ.out]; exact hown6.out) hg6.out hn6.out)
                  clear hown6 hg6 hn6 HL5 HR5 HB5
                  have HGJ := Lib.hid (show ctB P x j = false by unfold ctB; rw [HFJ.out, Bool.false_and])
                  have HL7 := HL6
                  have HR7 := HR6
                  have HB7 := Lib.hid (show B0 ≤ w6.heap.size from HL7.out.base)
                  go_wp2_with (at_builtin; refine Tp.wpList_append1_at (.tmp 88) (.tmp 98) 50 4 _ 1 1 rfl rfl Tryz.underlying50 infoB rfl (by decide) B0 _ _ _ _ _ _ _ _ HR7.out.o2 rfl rfl ?cgBNU5 rfl ?d1BNU5 ?d2BNU5 ?d3BNU5 ?d4BNU5 ?ckBNU5; case' ckBNU5 => (intro v2' w8 hown8 hg8 hn8))
                  case cgBNU5 => first | rfl | simp
                  case d1BNU5 => simp [Value.oneCell']
                  case d2BNU5 => simp only [maxLen]; omega
                  case d3BNU5 => omega
                  case d4BNU5 => exact HB7.out
                  have HL8 := Lib.hid (HL7.out.own HR7.out.o2 hg8.out)
                  have HR8 := Lib.hid (HR7.out.grow2 (by rw [HGJ.out]; exact hown8.out) hg8.out hn8.out)
                  clear hown8 hg8 hn8 HL7 HR7 HB7
                  go_wp2_with fail
                  go_roundw
                  case rel => exact ⟨rfl, rfl, rfl, rfl, rfl, rfl, rfl, rfl, rfl, rfl, rfl, j + 1, v1', v2', by go_num, rfl, rfl, by omega, HR8.out, HL8.out⟩
                  case measure => simp [intOf]; omega
            · obtain rfl : j = t.length := by omega
              have i4 : ¬ (t.length : Int) < (t.length : Int) := by omega
              obtain ⟨g3, c3, rfl, hc3, hg3⟩ := own_bits HR4.out.o1 l3
              obtain ⟨g4, c4, rfl, hc4, hg4⟩ := own_bits HR4.out.o2 l3
              obtain ⟨e0, e1⟩ := HE.out W5 HL4.out.b.1
              have HTN := Lib.hid (show Tt P (doC P x kd i) (33 + (k + 1)) (sameC P x (doC P x kd i) i same) (allC P x (doC P x kd i) i all) from HTt.out.act HDJ.out HJ.out kd i)
              have HEN := Lib.hid (show entB x (doC P x kd i) i = (decide ((spOf x.S i).pc < 10) && decide ((spOf (doC P x kd i).S i).pc = 10)) from rfl)
              rw [HSX.out] at HEN
              simp only at HEN
              have HUI := Lib.hid (fun he => Tt.at HDJ.out HTt.out kd i he)
              have HNO := Lib.hid (fun he => st_no (P := P) (x := x) (x' := doC P x kd i) (i := i) he same all)
              have HZE := Lib.hid (fun (u v : Nat) (he : entB x (doC P x kd i) (u : Int) = true) (h : v = u ∨ wtB P x v = false) => st_zero he h same all)
              have HIN := Lib.hid (fun (u v : Nat) (he : entB x (doC P x kd i) (u : Int) = true) (hne : v ≠ u) (hw : wtB P x v = true) => st_in HDR.out he hne hw same all)
              have HLMX := Lib.hid (fun v (hv : v < t.length) => HTt.out.le (k := v) (by rw [HPT.out.1]; exact hv))
              clear HWT HPSA HGLA HSPA
              generalize doC P x kd i = x' at *
              obtain ⟨new1, hnw1⟩ : ∃ f, f = sameC P x x' i same := ⟨_, rfl⟩
              obtain ⟨new2, hnw2⟩ : ∃ f, f = allC P x x' i all := ⟨_, rfl⟩
              rw [← hnw1, ← hnw2] at HTN
              have HNW1 := Lib.hid hnw1
              have HNW2 := Lib.hid hnw2
              clear hnw1 hnw2
              go_wp2_with fail
              refine (HD.out _ HL4.out.k).mono ?_
              rintro e w7 ⟨rfl, hk7, hp7⟩
              have HR7 := Lib.hid (HR4.out.kp hp7 HL4.out.cold)
              have hL7 := HL4.out.act HCOL.out hk7 hp7
              have HL7 := Lib.hid hL7
              have HS7 := Lib.hid (spot_co hL7.k i)
              clear hk7 hp7 hL7 HD HL4 HR4 e0 e1 c1
              by_cases h10 : xp < 10
              · have j1 : ¬ 10 ≤ xp := by omega
                by_cases h11 : (spOf x'.S i).pc = 10
                · have hen : entB x x' i = true := by rw [HEN.out, decide_eq_true h10, decide_eq_true h11]; rfl
                  obtain ⟨th, rfl, hu⟩ := HUI.out hen
                  have hut : th < t.length := by rw [HPT.out.1] at hu; exact hu
                  have HZ := Lib.hid (fun v h => HZE.out th v hen h)
                  have HI := Lib.hid (fun v h1 h2 => HIN.out th v hen h1 h2)
                  rw [← HNW1.out, ← HNW2.out] at HZ HI
                  clear hen HEN HUI HNO HZE HIN hu
                  generalize spOf x'.S (th : Int) = sp' at *
                  obtain ⟨yp, ya, yb, yc⟩ := sp'
                  simp only at HS7 h11
                  subst h11
                  go_wp2_with fail
                  refine HS7.out.mono ?_
                  rintro e w8 ⟨rfl, hb8⟩
                  have HL8 := Lib.hid (HL7.out.same hb8)
                  have HR8 := Lib.hid (HR7.out.same hb8)
                  clear hb8 HL7 HR7 HS7
                  have HLNX := Lib.hid (fun v (hv : v < t.length) => HTN.out.le (k := v) (by rw [HPT.out.1]; exact hv))
                  go_wp2_with fail
                  refine wp_loop (ToK w cd P B0 pr g1 g2 #[.int .i64 (kgOf n0 true), .int .i64 (kgOf n1 true), .int .i64 (1 + n2 / 4 % 4), .int .i64 (n2 % 4)] (.slice A p.length c) (.slice B t.length d) (some ⟨b, off, none⟩) cap l.length t.length k th x' same all new1 new2 (.slice (some ⟨g3, 0, none⟩) t.length c3) (.slice (some ⟨g4, 0, none⟩) t.length c4) (wtB P x) (ctB P x)) (fun a' _ => t.length - (intOf (a'.tmps.getD 20 undef)).toNat) ?_ ?_
                  · exact ⟨rfl, rfl, rfl, rfl, rfl, rfl, rfl, rfl, rfl, rfl, rfl, rfl, 0, rfl, Nat.zero_le _, HR8.out, by rw [paL_zero, paL_zero]; exact HL8.out⟩
                  · clear HL8 HR8
                    rintro a' W9 ⟨hsz, hdf, s2, s3, s8, s9, s11, s12, s13, s14, s16, s17, v, s20, hv, hR9, hL9⟩
                    obtain ⟨u, rfl, hu⟩ := frame196 hsz hdf
                    rw [hu] at s2 s3 s8 s9 s11 s12 s13 s14 s16 s17 s20
                    simp only [s2, s3, s8, s9, s11, s12, s13, s14, s16, s17, s20]
                    clear hsz hdf s2 s3 s8 s9 s11 s12 s13 s14 s16 s17 s20 hu
                    have HL9 := Lib.hid hL9
                    have HR9 := Lib.hid hR9
                    have c0 := hL9.b.2.2.1
                    have c1 := hL9.b.2.2.2
                    by_cases hvl : v < t.length
                    · have i5 : (v : Int) < (t.length : Int) := by omega
                      have e2 := own_bit hR9.o1 hvl
                      clear hL9 hR9
                      by_cases hvu : v = th
                      · subst hvu
                        obtain ⟨z1, z2⟩ := HZ.out v (.inl rfl)
                        clear e2
                        have fa := blk_free HL9.out.r1 v
                        have ca := its_cell HL9.out.r1 (i := v) (by rw [paL_len]; exact hvl)
                        go_upto_region 26 with fail
                        have HLz := Lib.hid (HL9.out.put1 v 0)
                        have HRz := Lib.hid (HR9.out.put HL9.out.d.2.2.2.1 v (.int .i64 0))
                        clear fa ca c0 c1 HL9 HR9
                        generalize W9.setCell ⟨g1, v, none⟩ (.int .i64 0) = Wz at *
                        have fb := blk_free HLz.out.r2 v
                        have cb := its_cell HLz.out.r2 (i := v) (by rw [paL_len]; exact hvl)
                        have HLy := Lib.hid (HLz.out.put2 v 0)
                        have HRy := Lib.hid (HRz.out.put HLz.out.d.2.2.2.2 v (.int .i64 0))
                        rw [show (paL t.length same new1 v).set v 0 = paL t.length same new1 (v + 1) by rw [paL_succ, z1]; rfl, show (paL t.length all new2 v).set v 0 = paL t.length all new2 (v + 1) by rw [paL_succ, z2]; rfl] at HLy
                        clear z1 z2
                        go_wp2_with fail
                        go_roundw
                        case rel => exact ⟨rfl, rfl, rfl, rfl, rfl, rfl, rfl, rfl, rfl, rfl, rfl, rfl, v + 1, by go_num, by omega, HRy.out, HLy.out⟩
                        case measure => simp [intOf]; omega
                      · have g9 := ibeq_no (show ¬ (v : Int) = (th : Int) by omega)
                        by_cases hwt : wtB P x v = true
                        · rw [hwt] at e2
                          obtain ⟨n1', n2'⟩ := HI.out v hvu hwt
                          have HN1 := Lib.hid n1'
                          have HN2 := Lib.hid n2'
                          rw [HPT.out.2.1, HPT.out.2.1] at HN1
                          obtain ⟨m1, m2, m3⟩ := HMM.out v hvl
                          have hLX := HLMX.out v hvl
                          have hLN := HLNX.out v hvl
                          rw [HPT.out.2.1, HPT.out.2.2.1, show max 1 (mtI p t (ndI p t v)) = mtN p t (ndI p t v) t.length by omega] at hLX hLN
                          have hms : ((mst P : Nat) : Int) = (((lvs p).length : Int) - 1) * (n2 % 4 + 1) := by
                            unfold mst
                            rw [HPT.out.2.2.2.1, HPT.out.2.2.2.2, Int.natCast_mul, Int.toNat_of_nonneg (by omega)]
                            congr 1
                            omega
                          have hmb : (((lvs p).length : Int) - 1) * (n2 % 4 + 1) ≤ 31 * 4 := Int.mul_le_mul (by omega) (by omega) (by omega) (by omega)
                          rw [← m1] at m2 m3
                          clear m1 n1' n2'
                          have HBT := Lib.hid (fun W => Bud.total_yes ((mtN p t (ndI p t v) t.length : Nat) : Int) ((lvs p).length : Int) (n2 % 4) W (Bud.right_iff.2 (by omega)) (Bud.inB_iff.2 (by omega)) (Bud.inB_iff.2 (by omega)))
                          rw [← hms] at HBT hmb
                          generalize mst P = ms at *
                          clear hms
                          generalize hM9 : mtN p t (ndI p t v) t.length = M9 at *
                          have HM9 := Lib.hid hM9
                          clear hM9
                          have hpr9 : M9 * ms ≤ 8 * 124 := Nat.mul_le_mul (by omega) (by omega)
                          rw [← Int.natCast_mul] at HBT
                          generalize M9 * ms = q9 at *
                          have HLIM := Lib.hid (show ¬ (M9 : Int) - 1 < (new1 v : Int) ∧ ¬ (M9 : Int) - 1 + (q9 : Int) < (new2 v : Int) by omega)
                          have HBD := Lib.hid (show (0 : Int) ≤ (all v : Int) ∧ (all v : Int) ≤ 1000 ∧ (0 : Int) ≤ (same v : Int) ∧ (same v : Int) ≤ 1000 by omega)
                          have i6 : (1 : Int) ≤ (M9 : Int) := by omega
                          have i7 : (M9 : Int) ≤ 8 := by omega
                          have i8 : (0 : Int) ≤ (q9 : Int) := by omega
                          have i10 : (q9 : Int) ≤ 992 := by omega
                          clear hLX hLN hmb hpr9 m2 m3
                          by_cases hsn : ndI p t v = ndI p t th
                          · have HN1 := Lib.hid (HN1.out.trans (if_pos hsn))
                            have g8 : ((ndI p t v : Int) == (ndI p t th : Int)) = true := by rw [hsn]; exact beq_self_eq_true _
                            clear hsn
                            go_upto_region 27 with fail
                            have k0 := cell_regrown c0
                            have k1 := cell_regrown c1
                            have CN := Lib.hid (fun d os => Calls.regrown_of (HND.out (grow (redrawn W9 d) os) ((HL9.out.b.step (below_regrown W9 d os)).sl HS.out) ((HL9.out.b.step (below_regrown W9 d os)).sl HT.out) v hvl))
                            have CU := Lib.hid (fun d os => Calls.regrown_of (HND.out (grow (redrawn W9 d) os) ((HL9.out.b.step (below_regrown W9 d os)).sl HS.out) ((HL9.out.b.step (below_regrown W9 d os)).sl HT.out) th hut))
                            clear c0 c1
                            refine wp_region_quiet_below (by kernel_rfl) (by kernel_rfl) ?_
                            repeat (any_goals (first | go_big_quiet_step ((go_at_call 16; first | with_reducible exact CN.out _ _ | with_reducible exact CU.out _ _)) | quiet_step ((go_at_call 16; first | with_reducible exact CN.out _ _ | with_reducible exact CU.out _ _))))
                            refine wpQuiet_nil ?_
                            intro _ hw'
                            obtain ⟨⟨dq, osq⟩, hw''⟩ := hw'
                            subst hw''
                            have HLq := Lib.hid (HL9.out.same (below_regrown W9 dq osq))
                            have HRq := Lib.hid (HR9.out.same (below_regrown W9 dq osq))
                            clear k0 k1 CN CU HL9 HR9 e2
                            generalize grow (redrawn W9 dq) osq = Wq at *
                            have c9 := its_cell HLq.out.r1 (i := v) (by rw [paL_len]; exact hvl)
                            have f9 := blk_free HLq.out.r1 v
                            rw [paL_at _ _ hvl, if_neg (Nat.lt_irrefl v)] at c9
                            obtain ⟨b1, b2, b3, b4⟩ := HBD.out
                            go_upto_region 29 with fail
                            have HLs := Lib.hid (HLq.out.put1 v ((same v : Int) + 1))
                            have HRs := Lib.hid (HRq.out.put HLq.out.d.2.2.2.1 v (.int .i64 ((same v : Int) + 1)))
                            rw [show (paL t.length same new1 v).set v ((same v : Int) + 1) = paL t.length same new1 (v + 1) by rw [paL_succ, HN1.out]; rfl] at HLs
                            clear c9 f9 HLq HRq b1 b2 b3 b4 g8
                            generalize Wq.setCell ⟨g1, v, none⟩ (.int .i64 ((same v : Int) + 1)) = Ws at *
                            have e3 := own_bit HRs.out.o2 hvl
                            by_cases hct : ctB P x v = true
                            · have HN2 := Lib.hid (HN2.out.trans (if_pos hct))
                              rw [hct] at e3
                              have c8 := its_cell HLs.out.r2 (i := v) (by rw [paL_len]; exact hvl)
                              have f8 := blk_free HLs.out.r2 v
                              rw [paL_at _ _ hvl, if_neg (Nat.lt_irrefl v)] at c8
                              obtain ⟨b1, b2, b3, b4⟩ := HBD.out
                              go_upto_region 31 with fail
                              have HLt := Lib.hid (HLs.out.put2 v ((all v : Int) + 1))
                              have HRt := Lib.hid (HRs.out.put HLs.out.d.2.2.2.2 v (.int .i64 ((all v : Int) + 1)))
                              rw [show (paL t.length all new2 v).set v ((all v : Int) + 1) = paL t.length all new2 (v + 1) by rw [paL_succ, HN2.out]; rfl] at HLt
                              clear e3 c8 f8 HLs HRs b1 b2 b3 b4
                              generalize Ws.setCell ⟨g2, v, none⟩ (.int .i64 ((all v : Int) + 1)) = Wt at *
                              have c0 := HLt.out.b.2.2.1
                              have c1 := HLt.out.b.2.2.2
                              have k0 := cell_regrown c0
                              have k1 := cell_regrown c1
                              have CN := Lib.hid (fun d os => Calls.regrown_of (HND.out (grow (redrawn Wt d) os) ((HLt.out.b.step (below_regrown Wt d os)).sl HS.out) ((HLt.out.b.step (below_regrown Wt d os)).sl HT.out) v hvl))
                              have CM := Lib.hid (fun d os => Calls.regrown_of (HMT.out (grow (redrawn Wt d) os) ((HLt.out.b.step (below_regrown Wt d os)).sl HS.out) ((HLt.out.b.step (below_regrown Wt d os)).sl HT.out) (ndI p t v)))
                              rw [HM9.out] at CM
                              clear c0 c1
                              refine wp_region_quiet_below (by kernel_rfl) (by kernel_rfl) ?_
                              repeat (any_goals (first | go_big_quiet_step ((first | (go_at_call 16; with_reducible exact CN.out _ _) | (go_at_call 22; with_reducible exact CM.out _ _))) | quiet_step ((first | (go_at_call 16; with_reducible exact CN.out _ _) | (go_at_call 22; with_reducible exact CM.out _ _)))))
                              refine wpQuiet_nil ?_
                              intro _ hw'
                              obtain ⟨⟨dq, osq⟩, hw''⟩ := hw'
                              subst hw''
                              have HLu := Lib.hid (HLt.out.same (below_regrown Wt dq osq))
                              have HRu := Lib.hid (HRt.out.same (below_regrown Wt dq osq))
                              clear k0 k1 CN CM HLt HRt
                              generalize grow (redrawn Wt dq) osq = Wu at *
                              go_upto_region 32 with fail
                              have HLd := Lib.hid (HLu.out.same (below_drewN (Below.refl _ _) 1))
                              have HRd := Lib.hid (HRu.out.same (below_drewN (Below.refl _ _) 1))
                              refine wp_region_held_drew (S := fun V => V.cell? ⟨w.heap.size, 0, none⟩ = some (.slice A p.length c) ∧ V.cell? ⟨w.heap.size, 1, none⟩ = some (.slice B t.length d) ∧ V.cell? ⟨pr, 3, none⟩ = some (.int .i64 (n2 % 4))) (by kernel_rfl) ⟨HLd.out.b.2.2.1, HLd.out.b.2.2.2, by have h3 := blk_cell HLd.out.q 3 (by simp); simp at h3; exact h3⟩ (fun hHeld => ?_)
                              generalize hX9 : Wu.drewN 1 = X9 at *
                              have hX9 : Wu.drew = X9 := hX9
                              rw [hX9]
                              rw [hX9] at hHeld
                              clear hX9
                              clear HLu HRu
                              refine take_to 0 (some 167) (v := ?_) rfl rfl (by kernel_rfl) (by kernel_rfl) (by kernel_rfl) (fun _ _ _ h => h) (Or.inl ⟨by rfl, ?_⟩) (by first | trivial | assumption) ?_
                              rotate_left
                              focus (intro w hSw; (try dsimp only at hSw); go_simp; (try with_reducible rfl))
                              simp only [Act.put, List.setIfInBounds_toArray, List.set_cons_zero, List.set_cons_succ]
                              refine take_to 1 (some 168) (v := ?_) rfl rfl (by kernel_rfl) (by kernel_rfl) (by kernel_rfl) (fun _ _ _ h => h) (Or.inl ⟨by rfl, ?_⟩) (by first | trivial | assumption) ?_
                              rotate_left
                              focus (intro w hSw; (try dsimp only at hSw); go_simp; (try with_reducible rfl))
                              simp only [Act.put, List.setIfInBounds_toArray, List.set_cons_zero, List.set_cons_succ]
                              refine take_to 4 (some 171) (v := ?_) rfl rfl (by kernel_rfl) (by kernel_rfl) (by kernel_rfl) (fun _ _ _ h => h) (Or.inl ⟨by rfl, ?_⟩) (by first | trivial | assumption) ?_
                              rotate_left
                              focus (intro w hSw; (try dsimp only at hSw); go_simp; (try with_reducible rfl))
                              simp only [Act.put, List.setIfInBounds_toArray, List.set_cons_zero, List.set_cons_succ]
                              refine take_to 5 (some 172) (v := ?_) rfl rfl (by kernel_rfl) (by kernel_rfl) (by kernel_rfl) (fun _ _ _ h => h) (Or.inl ⟨by rfl, ?_⟩) (by first | trivial | assumption) ?_
                              rotate_left
                              focus (intro w hSw; (try dsimp only at hSw); go_simp; (try with_reducible rfl))
                              simp only [Act.put, List.setIfInBounds_toArray, List.set_cons_zero, List.set_cons_succ]
                              refine wpAnyH_ready (rs := [2]) (by kernel_rfl) (by simp) ?_
                              refine AllReadyH.cons rfl (fun K hK => ?_) AllReadyH.nil
                              go_simp
                              refine (HLV.out _ (HLd.out.b.sl HS.out) (HLd.out.b.sl HT.out)).mono ?_
                              rintro e Wl ⟨El, ke, rfl, _, bl⟩
                              have HLw := Lib.hid (HLd.out.same bl)
                              have HRw := Lib.hid (HRd.out.same bl)
                              clear bl HLd HRd
                              go_simp
                              have el : Wl.cell? ⟨w.heap.size, 0, none⟩ = some (.slice A p.length c) ∧ Wl.cell? ⟨w.heap.size, 1, none⟩ = some (.slice B t.length d) ∧ Wl.cell? ⟨pr, 3, none⟩ = some (.int .i64 (n2 % 4)) := ⟨HLw.out.b.2.2.1, HLw.out.b.2.2.2, by have h3 := blk_cell HLw.out.q 3 (by simp); simp at h3; exact h3⟩
                              refine hK.out _ _ el (fun hHeld => ?_)
                              refine take_to 3 (some 170) (v := ?_) rfl rfl (by kernel_rfl) (by kernel_rfl) (by kernel_rfl) (fun _ _ _ h => h) (Or.inl ⟨by rfl, ?_⟩) (by first | trivial | assumption) ?_
                              rotate_left
                              focus (intro w hSw; (try dsimp only at hSw); go_simp; (try with_reducible rfl))
                              simp only [Act.put, List.setIfInBounds_toArray, List.set_cons_zero, List.set_cons_succ]
                              refine wpAnyH_ready (rs := [6]) (by kernel_rfl) (by simp) ?_
                              refine AllReadyH.cons rfl (fun K hK => ?_) AllReadyH.nil
                              go_simp
                              refine (HBT.out _).mono ?_
                              rintro e wx ⟨rfl, hwx⟩
                              obtain rfl := hwx.symm
                              go_simp
                              refine hK.out _ _ el (fun hHeld => ?_)
                              refine take_to 7 (some 166) (v := ?_) rfl rfl (by kernel_rfl) (by kernel_rfl) (by kernel_rfl) (fun _ _ _ h => h) (Or.inl ⟨by rfl, ?_⟩) (by first | trivial | assumption) ?_
                              rotate_left
                              focus (intro w hSw; (try dsimp only at hSw); go_simp; (try with_reducible rfl))
                              simp only [Act.put, List.setIfInBounds_toArray, List.set_cons_zero, List.set_cons_succ]
                              refine take_to 8 (some 174) (v := ?_) rfl rfl (by kernel_rfl) (by kernel_rfl) (by kernel_rfl) (fun _ _ _ h => h) (Or.inl ⟨by rfl, ?_⟩) (by first | trivial | assumption) ?_
                              rotate_left
                              focus (intro w hSw; (try dsimp only at hSw); go_simp; (try with_reducible rfl))
                              simp only [Act.put, List.setIfInBounds_toArray, List.set_cons_zero, List.set_cons_succ]
                              refine take_to 9 (some 175) (v := ?_) rfl rfl (by kernel_rfl) (by kernel_rfl) (by kernel_rfl) (fun _ _ _ h => h) (Or.inl ⟨by rfl, ?_⟩) (by first | trivial | assumption) ?_
                              rotate_left
                              focus (intro w hSw; (try dsimp only at hSw); go_simp; (try with_reducible rfl))
                              simp only [Act.put, List.setIfInBounds_toArray, List.set_cons_zero, List.set_cons_succ]
                              refine take_to 10 (some 22) (v := ?_) rfl rfl (by kernel_rfl) (by kernel_rfl) (by kernel_rfl) (fun _ _ _ h => h) (Or.inl ⟨by rfl, ?_⟩) (by first | trivial | assumption) ?_
                              rotate_left
                              focus (intro w hSw; (try dsimp only at hSw); go_simp; (try with_reducible rfl))
                              simp only [Act.put, List.setIfInBounds_toArray, List.set_cons_zero, List.set_cons_succ]
                              refine take_to 11 (some 23) (v := ?_) rfl rfl (by kernel_rfl) (by kernel_rfl) (by kernel_rfl) (fun _ _ _ h => h) (Or.inl ⟨by rfl, ?_⟩) (by first | trivial | assumption) ?_
                              rotate_left
                              focus (intro w hSw; (try dsimp only at hSw); go_simp; (try with_reducible rfl))
                              simp only [Act.put, List.setIfInBounds_toArray, List.set_cons_zero, List.set_cons_succ]
                              refine wpAnyH_done (by kernel_rfl) ?_ _
                              clear el
                              have c7 := its_cell HLw.out.r1 (i := v) (by rw [paL_len]; exact hvl)
                              have c8 := its_cell HLw.out.r2 (i := v) (by rw [paL_len]; exact hvl)
                              rw [paL_at _ _ hvl, if_pos (Nat.lt_succ_self v)] at c7 c8
                              obtain ⟨z1, z2⟩ := HLIM.out
                              go_wp2_with fail
                              go_roundw
                              case rel => exact ⟨rfl, rfl, rfl, rfl, rfl, rfl, rfl, rfl, rfl, rfl, rfl, rfl, v + 1, by go_num, by omega, HRw.out, HLw.out⟩
                              case measure => simp [intOf]; omega
                            · have HN2 := Lib.hid (HN2.out.trans (if_neg hct))
                              rw [Bool.eq_false_iff.2 hct] at e3
                              go_upto_region 31 with fail
                              have HLt := Lib.hid (show ToW w cd P x' B0 pr g1 g2 #[.int .i64 (kgOf n0 true), .int .i64 (kgOf n1 true), .int .i64 (1 + n2 / 4 % 4), .int .i64 (n2 % 4)] (paL t.length same new1 (v + 1)) (paL t.length all new2 (v + 1)) (.slice A p.length c) (.slice B t.length d) Ws by rw [paL_keep HN2.out]; exact HLs.out)
                              have HRt := HRs
                              clear e3 HLs HRs
                              generalize Ws = Wt at *
                              have c0 := HLt.out.b.2.2.1
                              have c1 := HLt.out.b.2.2.2
                              have k0 := cell_regrown c0
                              have k1 := cell_regrown c1
                              have CN := Lib.hid (fun d os => Calls.regrown_of (HND.out (grow (redrawn Wt d) os) ((HLt.out.b.step (below_regrown Wt d os)).sl HS.out) ((HLt.out.b.step (below_regrown Wt d os)).sl HT.out) v hvl))
                              have CM := Lib.hid (fun d os => Calls.regrown_of (HMT.out (grow (redrawn Wt d) os) ((HLt.out.b.step (below_regrown Wt d os)).sl HS.out) ((HLt.out.b.step (below_regrown Wt d os)).sl HT.out) (ndI p t v)))
                              rw [HM9.out] at CM
                              clear c0 c1
                              refine wp_region_quiet_below (by kernel_rfl) (by kernel_rfl) ?_
                              repeat (any_goals (first | go_big_quiet_step ((first | (go_at_call 16; with_reducible exact CN.out _ _) | (go_at_call 22; with_reducible exact CM.out _ _))) | quiet_step ((first | (go_at_call 16; with_reducible exact CN.out _ _) | (go_at_call 22; with_reducible exact CM.out _ _)))))
                              refine wpQuiet_nil ?_
                              intro _ hw'
                              obtain ⟨⟨dq, osq⟩, hw''⟩ := hw'
                              subst hw''
                              have HLu := Lib.hid (HLt.out.same (below_regrown Wt dq osq))
                              have HRu := Lib.hid (HRt.out.same (below_regrown Wt dq osq))
                              clear k0 k1 CN CM HLt HRt
                              generalize grow (redrawn Wt dq) osq = Wu at *
                              go_upto_region 32 with fail
                              have HLd := Lib.hid (HLu.out.same (below_drewN (Below.refl _ _) 1))
                              have HRd := Lib.hid (HRu.out.same (below_drewN (Below.refl _ _) 1))
                              refine wp_region_held_drew (S := fun V => V.cell? ⟨w.heap.size, 0, none⟩ = some (.slice A p.length c) ∧ V.cell? ⟨w.heap.size, 1, none⟩ = some (.slice B t.length d) ∧ V.cell? ⟨pr, 3, none⟩ = some (.int .i64 (n2 % 4))) (by kernel_rfl) ⟨HLd.out.b.2.2.1, HLd.out.b.2.2.2, by have h3 := blk_cell HLd.out.q 3 (by simp); simp at h3; exact h3⟩ (fun hHeld => ?_)
                              generalize hX9 : Wu.drewN 1 = X9 at *
                              have hX9 : Wu.drew = X9 := hX9
                              rw [hX9]
                              rw [hX9] at hHeld
                              clear hX9
                              clear HLu HRu
                              refine take_to 0 (some 167) (v := ?_) rfl rfl (by kernel_rfl) (by kernel_rfl) (by kernel_rfl) (fun _ _ _ h => h) (Or.inl ⟨by rfl, ?_⟩) (by first | trivial | assumption) ?_
                              rotate_left
                              focus (intro w hSw; (try dsimp only at hSw); go_simp; (try with_reducible rfl))
                              simp only [Act.put, List.setIfInBounds_toArray, List.set_cons_zero, List.set_cons_succ]
                              refine take_to 1 (some 168) (v := ?_) rfl rfl (by kernel_rfl) (by kernel_rfl) (by kernel_rfl) (fun _ _ _ h => h) (Or.inl ⟨by rfl, ?_⟩) (by first | trivial | assumption) ?_
                              rotate_left
                              focus (intro w hSw; (try dsimp only at hSw); go_simp; (try with_reducible rfl))
                              simp only [Act.put, List.setIfInBounds_toArray, List.set_cons_zero, List.set_cons_succ]
                              refine take_to 4 (some 171) (v := ?_) rfl rfl (by kernel_rfl) (by kernel_rfl) (by kernel_rfl) (fun _ _ _ h => h) (Or.inl ⟨by rfl, ?_⟩) (by first | trivial | assumption) ?_
                              rotate_left
                              focus (intro w hSw; (try dsimp only at hSw); go_simp; (try with_reducible rfl))
                              simp only [Act.put, List.setIfInBounds_toArray, List.set_cons_zero, List.set_cons_succ]
                              refine take_to 5 (some 172) (v := ?_) rfl rfl (by kernel_rfl) (by kernel_rfl) (by kernel_rfl) (fun _ _ _ h => h) (Or.inl ⟨by rfl, ?_⟩) (by first | trivial | assumption) ?_
                              rotate_left
                              focus (intro w hSw; (try dsimp only at hSw); go_simp; (try with_reducible rfl))
                              simp only [Act.put, List.setIfInBounds_toArray, List.set_cons_zero, List.set_cons_succ]
                              refine wpAnyH_ready (rs := [2]) (by kernel_rfl) (by simp) ?_
                              refine AllReadyH.cons rfl (fun K hK => ?_) AllReadyH.nil
                              go_simp
                              refine (HLV.out _ (HLd.out.b.sl HS.out) (HLd.out.b.sl HT.out)).mono ?_
                              rintro e Wl ⟨El, ke, rfl, _, bl⟩
                              have HLw := Lib.hid (HLd.out.same bl)
                              have HRw := Lib.hid (HRd.out.same bl)
                              clear bl HLd HRd
                              go_simp
                              have el : Wl.cell? ⟨w.heap.size, 0, none⟩ = some (.slice A p.length c) ∧ Wl.cell? ⟨w.heap.size, 1, none⟩ = some (.slice B t.length d) ∧ Wl.cell? ⟨pr, 3, none⟩ = some (.int .i64 (n2 % 4)) := ⟨HLw.out.b.2.2.1, HLw.out.b.2.2.2, by have h3 := blk_cell HLw.out.q 3 (by simp); simp at h3; exact h3⟩
                              refine hK.out _ _ el (fun hHeld => ?_)
                              refine take_to 3 (some 170) (v := ?_) rfl rfl (by kernel_rfl) (by kernel_rfl) (by kernel_rfl) (fun _ _ _ h => h) (Or.inl ⟨by rfl, ?_⟩) (by first | trivial | assumption) ?_
                              rotate_left
                              focus (intro w hSw; (try dsimp only at hSw); go_simp; (try with_reducible rfl))
                              simp only [Act.put, List.setIfInBounds_toArray, List.set_cons_zero, List.set_cons_succ]
                              refine wpAnyH_ready (rs := [6]) (by kernel_rfl) (by simp) ?_
                              refine AllReadyH.cons rfl (fun K hK => ?_) AllReadyH.nil
                              go_simp
                              refine (HBT.out _).mono ?_
                              rintro e wx ⟨rfl, hwx⟩
                              obtain rfl := hwx.symm
                              go_simp
                              refine hK.out _ _ el (fun hHeld => ?_)
                              refine take_to 7 (some 166) (v := ?_) rfl rfl (by kernel_rfl) (by kernel_rfl) (by kernel_rfl) (fun _ _ _ h => h) (Or.inl ⟨by rfl, ?_⟩) (by first | trivial | assumption) ?_
                              rotate_left
                              focus (intro w hSw; (try dsimp only at hSw); go_simp; (try with_reducible rfl))
                              simp only [Act.put, List.setIfInBounds_toArray, List.set_cons_zero, List.set_cons_succ]
                              refine take_to 8 (some 174) (v := ?_) rfl rfl (by kernel_rfl) (by kernel_rfl) (by kernel_rfl) (fun _ _ _ h => h) (Or.inl ⟨by rfl, ?_⟩) (by first | trivial | assumption) ?_
                              rotate_left
                              focus (intro w hSw; (try dsimp only at hSw); go_simp; (try with_reducible rfl))
                              simp only [Act.put, List.setIfInBounds_toArray, List.set_cons_zero, List.set_cons_succ]
                              refine take_to 9 (some 175) (v := ?_) rfl rfl (by kernel_rfl) (by kernel_rfl) (by kernel_rfl) (fun _ _ _ h => h) (Or.inl ⟨by rfl, ?_⟩) (by first | trivial | assumption) ?_
                              rotate_left
                              focus (intro w hSw; (try dsimp only at hSw); go_simp; (try with_reducible rfl))
                              simp only [Act.put, List.setIfInBounds_toArray, List.set_cons_zero, List.set_cons_succ]
                              refine take_to 10 (some 22) (v := ?_) rfl rfl (by kernel_rfl) (by kernel_rfl) (by kernel_rfl) (fun _ _ _ h => h) (Or.inl ⟨by rfl, ?_⟩) (by first | trivial | assumption) ?_
                              rotate_left
                              focus (intro w hSw; (try dsimp only at hSw); go_simp; (try with_reducible rfl))
                              simp only [Act.put, List.setIfInBounds_toArray, List.set_cons_zero, List.set_cons_succ]
                              refine take_to 11 (some 23) (v := ?_) rfl rfl (by kernel_rfl) (by kernel_rfl) (by kernel_rfl) (fun _ _ _ h => h) (Or.inl ⟨by rfl, ?_⟩) (by first | trivial | assumption) ?_
                              rotate_left
                              focus (intro w hSw; (try dsimp only at hSw); go_simp; (try with_reducible rfl))
                              simp only [Act.put, List.setIfInBounds_toArray, List.set_cons_zero, List.set_cons_succ]
                              refine wpAnyH_done (by kernel_rfl) ?_ _
                              clear el
                              have c7 := its_cell HLw.out.r1 (i := v) (by rw [paL_len]; exact hvl)
                              have c8 := its_cell HLw.out.r2 (i := v) (by rw [paL_len]; exact hvl)
                              rw [paL_at _ _ hvl, if_pos (Nat.lt_succ_self v)] at c7 c8
                              obtain ⟨z1, z2⟩ := HLIM.out
                              go_wp2_with fail
                              go_roundw
                              case rel => exact ⟨rfl, rfl, rfl, rfl, rfl, rfl, rfl, rfl, rfl, rfl, rfl, rfl, v + 1, by go_num, by omega, HRw.out, HLw.out⟩
                              case measure => simp [intOf]; omega
                          · have HN1 := Lib.hid (HN1.out.trans (if_neg hsn))
                            have g8 := ibeq_no (show ¬ (ndI p t v : Int) = (ndI p t th : Int) by omega)
                            clear hsn
                            go_upto_region 27 with fail
                            have k0 := cell_regrown c0
                            have k1 := cell_regrown c1
                            have CN := Lib.hid (fun d os => Calls.regrown_of (HND.out (grow (redrawn W9 d) os) ((HL9.out.b.step (below_regrown W9 d os)).sl HS.out) ((HL9.out.b.step (below_regrown W9 d os)).sl HT.out) v hvl))
                            have CU := Lib.hid (fun d os => Calls.regrown_of (HND.out (grow (redrawn W9 d) os) ((HL9.out.b.step (below_regrown W9 d os)).sl HS.out) ((HL9.out.b.step (below_regrown W9 d os)).sl HT.out) th hut))
                            clear c0 c1
                            refine wp_region_quiet_below (by kernel_rfl) (by kernel_rfl) ?_
                            repeat (any_goals (first | go_big_quiet_step ((go_at_call 16; first | with_reducible exact CN.out _ _ | with_reducible exact CU.out _ _)) | quiet_step ((go_at_call 16; first | with_reducible exact CN.out _ _ | with_reducible exact CU.out _ _))))
                            refine wpQuiet_nil ?_
                            intro _ hw'
                            obtain ⟨⟨dq, osq⟩, hw''⟩ := hw'
                            subst hw''
                            have HLq := Lib.hid (HL9.out.same (below_regrown W9 dq osq))
                            have HRq := Lib.hid (HR9.out.same (below_regrown W9 dq osq))
                            clear k0 k1 CN CU HL9 HR9 e2
                            generalize grow (redrawn W9 dq) osq = Wq at *
                            go_upto_region 29 with fail
                            have HLs := Lib.hid (show ToW w cd P x' B0 pr g1 g2 #[.int .i64 (kgOf n0 true), .int .i64 (kgOf n1 true), .int .i64 (1 + n2 / 4 % 4), .int .i64 (n2 % 4)] (paL t.length same new1 (v + 1)) (paL t.length all new2 v) (.slice A p.length c) (.slice B t.length d) Wq by rw [paL_keep HN1.out]; exact HLq.out)
                            have HRs := HRq
                            clear HLq HRq g8
                            generalize Wq = Ws at *
                            have e3 := own_bit HRs.out.o2 hvl
                            by_cases hct : ctB P x v = true
                            · have HN2 := Lib.hid (HN2.out.trans (if_pos hct))
                              rw [hct] at e3
                              have c8 := its_cell HLs.out.r2 (i := v) (by rw [paL_len]; exact hvl)
                              have f8 := blk_free HLs.out.r2 v
                              rw [paL_at _ _ hvl, if_neg (Nat.lt_irrefl v)] at c8
                              obtain ⟨b1, b2, b3, b4⟩ := HBD.out
                              go_upto_region 31 with fail
                              have HLt := Lib.hid (HLs.out.put2 v ((all v : Int) + 1))
                              have HRt := Lib.hid (HRs.out.put HLs.out.d.2.2.2.2 v (.int .i64 ((all v : Int) + 1)))
                              rw [show (paL t.length all new2 v).set v ((all v : Int) + 1) = paL t.length all new2 (v + 1) by rw [paL_succ, HN2.out]; rfl] at HLt
                              clear e3 c8 f8 HLs HRs b1 b2 b3 b4
                              generalize Ws.setCell ⟨g2, v, none⟩ (.int .i64 ((all v : Int) + 1)) = Wt at *
                              have c0 := HLt.out.b.2.2.1
                              have c1 := HLt.out.b.2.2.2
                              have k0 := cell_regrown c0
                              have k1 := cell_regrown c1
                              have CN := Lib.hid (fun d os => Calls.regrown_of (HND.out (grow (redrawn Wt d) os) ((HLt.out.b.step (below_regrown Wt d os)).sl HS.out) ((HLt.out.b.step (below_regrown Wt d os)).sl HT.out) v hvl))
                              have CM := Lib.hid (fun d os => Calls.regrown_of (HMT.out (grow (redrawn Wt d) os) ((HLt.out.b.step (below_regrown Wt d os)).sl HS.out) ((HLt.out.b.step (below_regrown Wt d os)).sl HT.out) (ndI p t v)))
                              rw [HM9.out] at CM
                              clear c0 c1
                              refine wp_region_quiet_below (by kernel_rfl) (by kernel_rfl) ?_
                              repeat (any_goals (first | go_big_quiet_step ((first | (go_at_call 16; with_reducible exact CN.out _ _) | (go_at_call 22; with_reducible exact CM.out _ _))) | quiet_step ((first | (go_at_call 16; with_reducible exact CN.out _ _) | (go_at_call 22; with_reducible exact CM.out _ _)))))
                              refine wpQuiet_nil ?_
                              intro _ hw'
                              obtain ⟨⟨dq, osq⟩, hw''⟩ := hw'
                              subst hw''
                              have HLu := Lib.hid (HLt.out.same (below_regrown Wt dq osq))
                              have HRu := Lib.hid (HRt.out.same (below_regrown Wt dq osq))
                              clear k0 k1 CN CM HLt HRt
                              generalize grow (redrawn Wt dq) osq = Wu at *
                              go_upto_region 32 with fail
                              have HLd := Lib.hid (HLu.out.same (below_drewN (Below.refl _ _) 1))
                              have HRd := Lib.hid (HRu.out.same (below_drewN (Below.refl _ _) 1))
                              refine wp_region_held_drew (S := fun V => V.cell? ⟨w.heap.size, 0, none⟩ = some (.slice A p.length c) ∧ V.cell? ⟨w.heap.size, 1, none⟩ = some (.slice B t.length d) ∧ V.cell? ⟨pr, 3, none⟩ = some (.int .i64 (n2 % 4))) (by kernel_rfl) ⟨HLd.out.b.2.2.1, HLd.out.b.2.2.2, by have h3 := blk_cell HLd.out.q 3 (by simp); simp at h3; exact h3⟩ (fun hHeld => ?_)
                              generalize hX9 : Wu.drewN 1 = X9 at *
                              have hX9 : Wu.drew = X9 := hX9
                              rw [hX9]
                              rw [hX9] at hHeld
                              clear hX9
                              clear HLu HRu
                              refine take_to 0 (some 167) (v := ?_) rfl rfl (by kernel_rfl) (by kernel_rfl) (by kernel_rfl) (fun _ _ _ h => h) (Or.inl ⟨by rfl, ?_⟩) (by first | trivial | assumption) ?_
                              rotate_left
                              focus (intro w hSw; (try dsimp only at hSw); go_simp; (try with_reducible rfl))
                              simp only [Act.put, List.setIfInBounds_toArray, List.set_cons_zero, List.set_cons_succ]
                              refine take_to 1 (some 168) (v := ?_) rfl rfl (by kernel_rfl) (by kernel_rfl) (by kernel_rfl) (fun _ _ _ h => h) (Or.inl ⟨by rfl, ?_⟩) (by first | trivial | assumption) ?_
                              rotate_left
                              focus (intro w hSw; (try dsimp only at hSw); go_simp; (try with_reducible rfl))
                              simp only [Act.put, List.setIfInBounds_toArray, List.set_cons_zero, List.set_cons_succ]
                              refine take_to 4 (some 171) (v := ?_) rfl rfl (by kernel_rfl) (by kernel_rfl) (by kernel_rfl) (fun _ _ _ h => h) (Or.inl ⟨by rfl, ?_⟩) (by first | trivial | assumption) ?_
                              rotate_left
                              focus (intro w hSw; (try dsimp only at hSw); go_simp; (try with_reducible rfl))
                              simp only [Act.put, List.setIfInBounds_toArray, List.set_cons_zero, List.set_cons_succ]
                              refine take_to 5 (some 172) (v := ?_) rfl rfl (by kernel_rfl) (by kernel_rfl) (by kernel_rfl) (fun _ _ _ h => h) (Or.inl ⟨by rfl, ?_⟩) (by first | trivial | assumption) ?_
                              rotate_left
                              focus (intro w hSw; (try dsimp only at hSw); go_simp; (try with_reducible rfl))
                              simp only [Act.put, List.setIfInBounds_toArray, List.set_cons_zero, List.set_cons_succ]
                              refine wpAnyH_ready (rs := [2]) (by kernel_rfl) (by simp) ?_
                              refine AllReadyH.cons rfl (fun K hK => ?_) AllReadyH.nil
                              go_simp
                              refine (HLV.out _ (HLd.out.b.sl HS.out) (HLd.out.b.sl HT.out)).mono ?_
                              rintro e Wl ⟨El, ke, rfl, _, bl⟩
                              have HLw := Lib.hid (HLd.out.same bl)
                              have HRw := Lib.hid (HRd.out.same bl)
                              clear bl HLd HRd
                              go_simp
                              have el : Wl.cell? ⟨w.heap.size, 0, none⟩ = some (.slice A p.length c) ∧ Wl.cell? ⟨w.heap.size, 1, none⟩ = some (.slice B t.length d) ∧ Wl.cell? ⟨pr, 3, none⟩ = some (.int .i64 (n2 % 4)) := ⟨HLw.out.b.2.2.1, HLw.out.b.2.2.2, by have h3 := blk_cell HLw.out.q 3 (by simp); simp at h3; exact h3⟩
                              refine hK.out _ _ el (fun hHeld => ?_)
                              refine take_to 3 (some 170) (v := ?_) rfl rfl (by kernel_rfl) (by kernel_rfl) (by kernel_rfl) (fun _ _ _ h => h) (Or.inl ⟨by rfl, ?_⟩) (by first | trivial | assumption) ?_
                              rotate_left
                              focus (intro w hSw; (try dsimp only at hSw); go_simp; (try with_reducible rfl))
                              simp only [Act.put, List.setIfInBounds_toArray, List.set_cons_zero, List.set_cons_succ]
                              refine wpAnyH_ready (rs := [6]) (by kernel_rfl) (by simp) ?_
                              refine AllReadyH.cons rfl (fun K hK => ?_) AllReadyH.nil
                              go_simp
                              refine (HBT.out _).mono ?_
                              rintro e wx ⟨rfl, hwx⟩
                              obtain rfl := hwx.symm
                              go_simp
                              refine hK.out _ _ el (fun hHeld => ?_)
                              refine take_to 7 (some 166) (v := ?_) rfl rfl (by kernel_rfl) (by kernel_rfl) (by kernel_rfl) (fun _ _ _ h => h) (Or.inl ⟨by rfl, ?_⟩) (by first | trivial | assumption) ?_
                              rotate_left
                              focus (intro w hSw; (try dsimp only at hSw); go_simp; (try with_reducible rfl))
                              simp only [Act.put, List.setIfInBounds_toArray, List.set_cons_zero, List.set_cons_succ]
                              refine take_to 8 (some 174) (v := ?_) rfl rfl (by kernel_rfl) (by kernel_rfl) (by kernel_rfl) (fun _ _ _ h => h) (Or.inl ⟨by rfl, ?_⟩) (by first | trivial | assumption) ?_
                              rotate_left
                              focus (intro w hSw; (try dsimp only at hSw); go_simp; (try with_reducible rfl))
                              simp only [Act.put, List.setIfInBounds_toArray, List.set_cons_zero, List.set_cons_succ]
                              refine take_to 9 (some 175) (v := ?_) rfl rfl (by kernel_rfl) (by kernel_rfl) (by kernel_rfl) (fun _ _ _ h => h) (Or.inl ⟨by rfl, ?_⟩) (by first | trivial | assumption) ?_
                              rotate_left
                              focus (intro w hSw; (try dsimp only at hSw); go_simp; (try with_reducible rfl))
                              simp only [Act.put, List.setIfInBounds_toArray, List.set_cons_zero, List.set_cons_succ]
                              refine take_to 10 (some 22) (v := ?_) rfl rfl (by kernel_rfl) (by kernel_rfl) (by kernel_rfl) (fun _ _ _ h => h) (Or.inl ⟨by rfl, ?_⟩) (by first | trivial | assumption) ?_
                              rotate_left
                              focus (intro w hSw; (try dsimp only at hSw); go_simp; (try with_reducible rfl))
                              simp only [Act.put, List.setIfInBounds_toArray, List.set_cons_zero, List.set_cons_succ]
                              refine take_to 11 (some 23) (v := ?_) rfl rfl (by kernel_rfl) (by kernel_rfl) (by kernel_rfl) (fun _ _ _ h => h) (Or.inl ⟨by rfl, ?_⟩) (by first | trivial | assumption) ?_
                              rotate_left
                              focus (intro w hSw; (try dsimp only at hSw); go_simp; (try with_reducible rfl))
                              simp only [Act.put, List.setIfInBounds_toArray, List.set_cons_zero, List.set_cons_succ]
                              refine wpAnyH_done (by kernel_rfl) ?_ _
                              clear el
                              have c7 := its_cell HLw.out.r1 (i := v) (by rw [paL_len]; exact hvl)
                              have c8 := its_cell HLw.out.r2 (i := v) (by rw [paL_len]; exact hvl)
                              rw [paL_at _ _ hvl, if_pos (Nat.lt_succ_self v)] at c7 c8
                              obtain ⟨z1, z2⟩ := HLIM.out
                              go_wp2_with fail
                              go_roundw
                              case rel => exact ⟨rfl, rfl, rfl, rfl, rfl, rfl, rfl, rfl, rfl, rfl, rfl, rfl, v + 1, by go_num, by omega, HRw.out, HLw.out⟩
                              case measure => simp [intOf]; omega
                            · have HN2 := Lib.hid (HN2.out.trans (if_neg hct))
                              rw [Bool.eq_false_iff.2 hct] at e3
                              go_upto_region 31 with fail
                              have HLt := Lib.hid (show ToW w cd P x' B0 pr g1 g2 #[.int .i64 (kgOf n0 true), .int .i64 (kgOf n1 true), .int .i64 (1 + n2 / 4 % 4), .int .i64 (n2 % 4)] (paL t.length same new1 (v + 1)) (paL t.length all new2 (v + 1)) (.slice A p.length c) (.slice B t.length d) Ws by rw [paL_keep HN2.out]; exact HLs.out)
                              have HRt := HRs
                              clear e3 HLs HRs
                              generalize Ws = Wt at *
                              have c0 := HLt.out.b.2.2.1
                              have c1 := HLt.out.b.2.2.2
                              have k0 := cell_regrown c0
                              have k1 := cell_regrown c1
                              have CN := Lib.hid (fun d os => Calls.regrown_of (HND.out (grow (redrawn Wt d) os) ((HLt.out.b.step (below_regrown Wt d os)).sl HS.out) ((HLt.out.b.step (below_regrown Wt d os)).sl HT.out) v hvl))
                              have CM := Lib.hid (fun d os => Calls.regrown_of (HMT.out (grow (redrawn Wt d) os) ((HLt.out.b.step (below_regrown Wt d os)).sl HS.out) ((HLt.out.b.step (below_regrown Wt d os)).sl HT.out) (ndI p t v)))
                              rw [HM9.out] at CM
                              clear c0 c1
                              refine wp_region_quiet_below (by kernel_rfl) (by kernel_rfl) ?_
                              repeat (any_goals (first | go_big_quiet_step ((first | (go_at_call 16; with_reducible exact CN.out _ _) | (go_at_call 22; with_reducible exact CM.out _ _))) | quiet_step ((first | (go_at_call 16; with_reducible exact CN.out _ _) | (go_at_call 22; with_reducible exact CM.out _ _)))))
                              refine wpQuiet_nil ?_
                              intro _ hw'
                              obtain ⟨⟨dq, osq⟩, hw''⟩ := hw'
                              subst hw''
                              have HLu := Lib.hid (HLt.out.same (below_regrown Wt dq osq))
                              have HRu := Lib.hid (HRt.out.same (below_regrown Wt dq osq))
                              clear k0 k1 CN CM HLt HRt
                              generalize grow (redrawn Wt dq) osq = Wu at *
                              go_upto_region 32 with fail
                              have HLd := Lib.hid (HLu.out.same (below_drewN (Below.refl _ _) 1))
                              have HRd := Lib.hid (HRu.out.same (below_drewN (Below.refl _ _) 1))
                              refine wp_region_held_drew (S := fun V => V.cell? ⟨w.heap.size, 0, none⟩ = some (.slice A p.length c) ∧ V.cell? ⟨w.heap.size, 1, none⟩ = some (.slice B t.length d) ∧ V.cell? ⟨pr, 3, none⟩ = some (.int .i64 (n2 % 4))) (by kernel_rfl) ⟨HLd.out.b.2.2.1, HLd.out.b.2.2.2, by have h3 := blk_cell HLd.out.q 3 (by simp); simp at h3; exact h3⟩ (fun hHeld => ?_)
                              generalize hX9 : Wu.drewN 1 = X9 at *
                              have hX9 : Wu.drew = X9 := hX9
                              rw [hX9]
                              rw [hX9] at hHeld
                              clear hX9
                              clear HLu HRu
                              refine take_to 0 (some 167) (v := ?_) rfl rfl (by kernel_rfl) (by kernel_rfl) (by kernel_rfl) (fun _ _ _ h => h) (Or.inl ⟨by rfl, ?_⟩) (by first | trivial | assumption) ?_
                              rotate_left
                              focus (intro w hSw; (try dsimp only at hSw); go_simp; (try with_reducible rfl))
                              simp only [Act.put, List.setIfInBounds_toArray, List.set_cons_zero, List.set_cons_succ]
                              refine take_to 1 (some 168) (v := ?_) rfl rfl (by kernel_rfl) (by kernel_rfl) (by kernel_rfl) (fun _ _ _ h => h) (Or.inl ⟨by rfl, ?_⟩) (by first | trivial | assumption) ?_
                              rotate_left
                              focus (intro w hSw; (try dsimp only at hSw); go_simp; (try with_reducible rfl))
                              simp only [Act.put, List.setIfInBounds_toArray, List.set_cons_zero, List.set_cons_succ]
                              refine take_to 4 (some 171) (v := ?_) rfl rfl (by kernel_rfl) (by kernel_rfl) (by kernel_rfl) (fun _ _ _ h => h) (Or.inl ⟨by rfl, ?_⟩) (by first | trivial | assumption) ?_
                              rotate_left
                              focus (intro w hSw; (try dsimp only at hSw); go_simp; (try with_reducible rfl))
                              simp only [Act.put, List.setIfInBounds_toArray, List.set_cons_zero, List.set_cons_succ]
                              refine take_to 5 (some 172) (v := ?_) rfl rfl (by kernel_rfl) (by kernel_rfl) (by kernel_rfl) (fun _ _ _ h => h) (Or.inl ⟨by rfl, ?_⟩) (by first | trivial | assumption) ?_
                              rotate_left
                              focus (intro w hSw; (try dsimp only at hSw); go_simp; (try with_reducible rfl))
                              simp only [Act.put, List.setIfInBounds_toArray, List.set_cons_zero, List.set_cons_succ]
                              refine wpAnyH_ready (rs := [2]) (by kernel_rfl) (by simp) ?_
                              refine AllReadyH.cons rfl (fun K hK => ?_) AllReadyH.nil
                              go_simp
                              refine (HLV.out _ (HLd.out.b.sl HS.out) (HLd.out.b.sl HT.out)).mono ?_
                              rintro e Wl ⟨El, ke, rfl, _, bl⟩
                              have HLw := Lib.hid (HLd.out.same bl)
                              have HRw := Lib.hid (HRd.out.same bl)
                              clear bl HLd HRd
                              go_simp
                              have el : Wl.cell? ⟨w.heap.size, 0, none⟩ = some (.slice A p.length c) ∧ Wl.cell? ⟨w.heap.size, 1, none⟩ = some (.slice B t.length d) ∧ Wl.cell? ⟨pr, 3, none⟩ = some (.int .i64 (n2 % 4)) := ⟨HLw.out.b.2.2.1, HLw.out.b.2.2.2, by have h3 := blk_cell HLw.out.q 3 (by simp); simp at h3; exact h3⟩
                              refine hK.out _ _ el (fun hHeld => ?_)
                              refine take_to 3 (some 170) (v := ?_) rfl rfl (by kernel_rfl) (by kernel_rfl) (by kernel_rfl) (fun _ _ _ h => h) (Or.inl ⟨by rfl, ?_⟩) (by first | trivial | assumption) ?_
                              rotate_left
                              focus (intro w hSw; (try dsimp only at hSw); go_simp; (try with_reducible rfl))
                              simp only [Act.put, List.setIfInBounds_toArray, List.set_cons_zero, List.set_cons_succ]
                              refine wpAnyH_ready (rs := [6]) (by kernel_rfl) (by simp) ?_
                              refine AllReadyH.cons rfl (fun K hK => ?_) AllReadyH.nil
                              go_simp
                              refine (HBT.out _).mono ?_
                              rintro e wx ⟨rfl, hwx⟩
                              obtain rfl := hwx.symm
                              go_simp
                              refine hK.out _ _ el (fun hHeld => ?_)
                              refine take_to 7 (some 166) (v := ?_) rfl rfl (by kernel_rfl) (by kernel_rfl) (by kernel_rfl) (fun _ _ _ h => h) (Or.inl ⟨by rfl, ?_⟩) (by first | trivial | assumption) ?_
                              rotate_left
                              focus (intro w hSw; (try dsimp only at hSw); go_simp; (try with_reducible rfl))
                              simp only [Act.put, List.setIfInBounds_toArray, List.set_cons_zero, List.set_cons_succ]
                              refine take_to 8 (some 174) (v := ?_) rfl rfl (by kernel_rfl) (by kernel_rfl) (by kernel_rfl) (fun _ _ _ h => h) (Or.inl ⟨by rfl, ?_⟩) (by first | trivial | assumption) ?_
                              rotate_left
                              focus (intro w hSw; (try dsimp only at hSw); go_simp; (try with_reducible rfl))
                              simp only [Act.put, List.setIfInBounds_toArray, List.set_cons_zero, List.set_cons_succ]
                              refine take_to 9 (some 175) (v := ?_) rfl rfl (by kernel_rfl) (by kernel_rfl) (by kernel_rfl) (fun _ _ _ h => h) (Or.inl ⟨by rfl, ?_⟩) (by first | trivial | assumption) ?_
                              rotate_left
                              focus (intro w hSw; (try dsimp only at hSw); go_simp; (try with_reducible rfl))
                              simp only [Act.put, List.setIfInBounds_toArray, List.set_cons_zero, List.set_cons_succ]
                              refine take_to 10 (some 22) (v := ?_) rfl rfl (by kernel_rfl) (by kernel_rfl) (by kernel_rfl) (fun _ _ _ h => h) (Or.inl ⟨by rfl, ?_⟩) (by first | trivial | assumption) ?_
                              rotate_left
                              focus (intro w hSw; (try dsimp only at hSw); go_simp; (try with_reducible rfl))
                              simp only [Act.put, List.setIfInBounds_toArray, List.set_cons_zero, List.set_cons_succ]
                              refine take_to 11 (some 23) (v := ?_) rfl rfl (by kernel_rfl) (by kernel_rfl) (by kernel_rfl) (fun _ _ _ h => h) (Or.inl ⟨by rfl, ?_⟩) (by first | trivial | assumption) ?_
                              rotate_left
                              focus (intro w hSw; (try dsimp only at hSw); go_simp; (try with_reducible rfl))
                              simp only [Act.put, List.setIfInBounds_toArray, List.set_cons_zero, List.set_cons_succ]
                              refine wpAnyH_done (by kernel_rfl) ?_ _
                              clear el
                              have c7 := its_cell HLw.out.r1 (i := v) (by rw [paL_len]; exact hvl)
                              have c8 := its_cell HLw.out.r2 (i := v) (by rw [paL_len]; exact hvl)
                              rw [paL_at _ _ hvl, if_pos (Nat.lt_succ_self v)] at c7 c8
                              obtain ⟨z1, z2⟩ := HLIM.out
                              go_wp2_with fail
                              go_roundw
                              case rel => exact ⟨rfl, rfl, rfl, rfl, rfl, rfl, rfl, rfl, rfl, rfl, rfl, rfl, v + 1, by go_num, by omega, HRw.out, HLw.out⟩
                              case measure => simp [intOf]; omega
                        · have hwt := Bool.eq_false_iff.2 hwt
                          rw [hwt] at e2
                          obtain ⟨z1, z2⟩ := HZ.out v (.inr hwt)
                          have fa := blk_free HL9.out.r1 v
                          have ca := its_cell HL9.out.r1 (i := v) (by rw [paL_len]; exact hvl)
                          go_upto_region 26 with fail
                          have HLz := Lib.hid (HL9.out.put1 v 0)
                          have HRz := Lib.hid (HR9.out.put HL9.out.d.2.2.2.1 v (.int .i64 0))
                          clear fa ca c0 c1 HL9 HR9
                          generalize W9.setCell ⟨g1, v, none⟩ (.int .i64 0) = Wz at *
                          have fb := blk_free HLz.out.r2 v
                          have cb := its_cell HLz.out.r2 (i := v) (by rw [paL_len]; exact hvl)
                          have HLy := Lib.hid (HLz.out.put2 v 0)
                          have HRy := Lib.hid (HRz.out.put HLz.out.d.2.2.2.2 v (.int .i64 0))
                          rw [show (paL t.length same new1 v).set v 0 = paL t.length same new1 (v + 1) by rw [paL_succ, z1]; rfl, show (paL t.length all new2 v).set v 0 = paL t.length all new2 (v + 1) by rw [paL_succ, z2]; rfl] at HLy
                          clear z1 z2
                          go_wp2_with fail
                          go_roundw
                          case rel => exact ⟨rfl, rfl, rfl, rfl, rfl, rfl, rfl, rfl, rfl, rfl, rfl, rfl, v + 1, by go_num, by omega, HRy.out, HLy.out⟩
                          case measure => simp [intOf]; omega
                    · obtain rfl : v = t.length := by omega
                      have i5 : ¬ (t.length : Int) < (t.length : Int) := by omega
                      clear hL9 hR9
                      go_wp2_with fail
                      go_roundw
                      case rel => exact ⟨rfl, rfl, rfl, rfl, rfl, rfl, rfl, rfl, k + 1, x', new1, new2, by go_num, by omega, HTN.out, by have := HL9.out; rw [paL_all, paL_all] at this; exact this⟩
                      case measure => simp [intOf]; omega
                · obtain ⟨n1', n2'⟩ := HNO.out (by rw [HEN.out, decide_eq_false h11, Bool.and_false]; decide)
                  have HTN2 := Lib.hid (show Tt P x' (33 + (k + 1)) same all by have := HTN.out; rw [HNW1.out, HNW2.out, n1', n2'] at this; exact this)
                  clear n1' n2' HEN HUI HNO HZE HIN
                  generalize spOf x'.S i = sp' at *
                  obtain ⟨yp, ya, yb, yc⟩ := sp'
                  simp only at HS7 h11
                  have g9 := ibne h11
                  clear h11
                  go_wp2_with fail
                  refine HS7.out.mono ?_
                  rintro e w8 ⟨rfl, hb8⟩
                  have HL8 := Lib.hid (HL7.out.same hb8)
                  clear hb8
                  go_wp2_with fail
                  go_roundw
                  case rel => exact ⟨rfl, rfl, rfl, rfl, rfl, rfl, rfl, rfl, k + 1, x', same, all, by go_num, by omega, HTN2.out, HL8.out⟩
                  case measure => simp [intOf]; omega
              · have j1 : 10 ≤ xp := by omega
                obtain ⟨n1', n2'⟩ := HNO.out (by rw [HEN.out, decide_eq_false h10, Bool.false_and]; decide)
                have HTN2 := Lib.hid (show Tt P x' (33 + (k + 1)) same all by have := HTN.out; rw [HNW1.out, HNW2.out, n1', n2'] at this; exact this)
                clear n1' n2' HEN HUI HNO HZE HIN
                go_wp2_with fail
                go_roundw
                case rel => exact ⟨rfl, rfl, rfl, rfl, rfl, rfl, rfl, rfl, k + 1, x', same, all, by go_num, by omega, HTN2.out, HL7.out⟩
                case measure => simp [intOf]; omega
        · obtain rfl : k = l.length := by omega
          have i2 : ¬ (l.length : Int) < (l.length : Int) := by omega
          clear hL
          go_wp2_with fail
          refine (HAW.out _).mono ?_
          rintro e w5 ⟨rfl, hb5⟩
          have HB5 := Lib.hid (HL.out.b.1.trans (hb5.mono HL.out.b.1.size))
          clear hb5
          go_wp2_with fail
          go_ret
          exact ⟨rfl, HB5.out⟩
    · have HMD := Lib.hid (fun W h3 h4 => made_no p t A B c d W h3 h4 n0 n1 n2 h0 h1 h2 true hok)
      have hsm := fun W h3 h4 => Rn.small_any p t A B c d W h3 h4 8
      rw [show (decide (chk p t = 0) && decide ((t.length : Int) ≤ 8)) = false by
        rcases Classical.em (chk p t = 0) with h9 | h9
        · rw [decide_eq_false (show ¬ (t.length : Int) ≤ 8 by omega), Bool.and_false]
        · rw [decide_eq_false h9, Bool.false_and]] at hsm
      have HSM := Lib.hid hsm
      clear h0 h1 h2 hsm hok
      go_enter Tryz.func6, Tryz.ntmps6
      go_upto_region 3 with fail
      have HX := Lib.hid ((Bx.made w (.slice A p.length c) (.slice B t.length d) 24).step (below_new _ (.cells #[.int .u8 n0, .int .u8 n1, .int .u8 n2] 25)))
      have hx9 := blk_new (w.alloc (.cells #[.slice A p.length c, .slice B t.length d] 24)) (.cells #[.int .u8 n0, .int .u8 n1, .int .u8 n2] 25)
      have hz9 : (w.alloc (.cells #[.slice A p.length c, .slice B t.length d] 24)).heap.size = w.heap.size + 1 := by simp
      rw [hz9] at hx9
      generalize (w.alloc (.cells #[.slice A p.length c, .slice B t.length d] 24)).alloc (.cells #[.int .u8 n0, .int .u8 n1, .int .u8 n2] 25) = W1 at *
      have c0 := HX.out.2.2.1
      have c1 := HX.out.2.2.2
      have d0 := blk_cell hx9 0 (by simp)
      have d1 := blk_cell hx9 1 (by simp)
      have d2 := blk_cell hx9 2 (by simp)
      simp at d0 d1 d2
      have hlt9 := lt_of_blk hx9
      clear hx9 hz9
      go_wp2_with fail
      refine (HMD.out _ (HX.out.sl HS.out) (HX.out.sl HT.out)).mono ?_
      rintro e W2 ⟨rfl, hb2⟩
      have HX2 := Lib.hid (HX.out.step hb2)
      clear hb2 HX c0 c1 d0 d1 d2 HMD
      simp only [mpOf]
      have HX3 := Lib.hid (HX2.out.step (below_new W2 (.cells #[.int .i64 (kgOf n0 true), .int .i64 (kgOf n1 true), .int .i64 (1 + n2 / 4 % 4), .int .i64 (n2 % 4)] 30)))
      have c0 := HX3.out.2.2.1
      have c1 := HX3.out.2.2.2
      go_wp2_with fail
      refine (HSM.out _ (HX3.out.sl HS.out) (HX3.out.sl HT.out)).mono ?_
      rintro e W3 ⟨rfl, hb3⟩
      have HX4 := Lib.hid (HX3.out.step hb3)
      clear hb3 c0 c1
      go_wp2_with fail
      refine (HAW.out _).mono ?_
      rintro e w5 ⟨rfl, hb5⟩
      have HB5 := Lib.hid (HX4.out.1.trans (hb5.mono HX4.out.1.size))
      clear hb5
      go_wp2_with fail
      go_ret
      exact ⟨rfl, HB5.out⟩
  · have i1 : (150 : Int) < (l.length : Int) := by omega
    have hb0 := (below_new w (.cells #[.slice A p.length c, .slice B t.length d] 24)).trans ((below_new (w.alloc (.cells #[.slice A p.length c, .slice B t.length d] 24)) (.cells #[.int .u8 n0, .int .u8 n1, .int .u8 n2] 25)).mono (by simp))
    have HB0 := Lib.hid hb0
    clear hb0
    go_enter Tryz.func6, Tryz.ntmps6
    go_wp2_with fail
    refine (HAW.out _).mono ?_
    rintro e w5 ⟨rfl, hb5⟩
    have HB5 := Lib.hid (HB0.out.trans (hb5.mono HB0.out.size))
    clear hb5
    go_wp2_with fail
    go_ret
    exact ⟨rfl, HB5.out⟩
end
theorem total_law (w : World) (A B : Option Addr) (c d : Nat) (p t : List Int) (_hc : p.length ≤ c) (_hm : c ≤ maxLen) (_hd : t.length ≤ d) (_hn : d ≤ maxLen) (hs : Sl w w.heap.size A (p.flatMap decI)) (ht : Sl w w.heap.size B (t.flatMap decI)) (n : List Int) (hn : n.length = 3 ∧ ∀ a ∈ n, isU8 a)
    (C : Option Addr) (cap : Nat) (l : List Ac) (hlc : l.length ≤ cap) (hcm : cap ≤ maxLen) (_w0 : ∀ e ∈ l, isI64 e.kind ∧ isI64 e.i) (hl : Sl w w.heap.size C (l.flatMap decAc)) :
    Calls Tryz.prog 6 #[(.agg #[.slice A p.length c, .slice B t.length d]), .agg (n.flatMap fun n => [.int .u8 n]).toArray, .slice C l.length cap] w fun e w' => e = .returned (.bool true) ∧ Below w.heap.size w w' := by
  obtain ⟨n0, n1, n2, rfl⟩ := list3 hn.1
  exact total_walk p t A B c d w hs ht n0 n1 n2 (hn.2 n0 (by simp)) (hn.2 n1 (by simp)) (hn.2 n2 (by simp)) C cap l hlc hcm hl
end Go.Proofs.YtfnmggmgdmokcaaGreat.Cm

