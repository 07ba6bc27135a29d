/- Merged texts: Cm22. -/
import Derived.Test.YtfnmggmgdmokcaaGreatCq28
set_option linter.unusedVariables false
/- The law CohortTenure: a tenure has budget and 1 entries at most, of one node. -/
namespace Go.Proofs.YtfnmggmgdmokcaaGreat.Cm
open Go.RowKit Go.Proofs.YtfnmggmgdmokcaaGreat.Tp Go.Proofs.YtfnmggmgdmokcaaGreat.Ara Go.Proofs.YtfnmggmgdmokcaaGreat.Lok Go.Proofs.YtfnmggmgdmokcaaGreat.Fl Go.Proofs.YtfnmggmgdmokcaaGreat.Co


theorem Bx.mod {w W W' : World} {X Y : Value} (h : Bx w W X Y) {S : List Nat} (hm : Mod S W W') (hS : ∀ b ∈ S, w.heap.size < b) : Bx w W' X Y := by
  obtain ⟨b1, b2, b3, b4⟩ := h
  have hn : w.heap.size ∉ S := fun hx => by have := hS _ hx; omega
  exact ⟨Mod.below_of b1 hm b1.size (fun b hb => Nat.le_of_lt (hS b hb)), Nat.lt_of_lt_of_le b2 hm.size, (Pa.cell_mod hm (p := ⟨w.heap.size, 0, none⟩) b2 hn).trans b3, (Pa.cell_mod hm (p := ⟨w.heap.size, 1, none⟩) b2 hn).trans b4⟩
structure TnW (w : World) (cd : Cd) (P : Pm) (x : CS) (B0 pr : Nat) (arr : Array Value) (v : Value) (L : List Ten.Ev) (X Y : Value) (W : World) : Prop where
  k : CoAt W cd P x
  b : Bx w W X Y
  o : W.ownsRow B0 54 4 v L.length (L.flatMap Ten.decEv)
  q : W.heap[pr]? = some (.cells arr 30 (0, 0))
  c : (∀ q, B0 ≤ q → cd.col q = 0) ∧ cd.col pr = 0 ∧ Hi cd P.NN B0 ∧ pr < B0 ∧ w.heap.size < B0
section
variable {w : World} {cd : Cd} {P : Pm} {x : CS} {B0 pr : Nat} {arr : Array Value} {v : Value} {L : List Ten.Ev} {X Y : Value} {W W' : World} (h : TnW w cd P x B0 pr arr v L X Y W)
include h
theorem TnW.cold {b : Nat} (hb : v.ownBlock = some b) : cd.col b = 0 := h.c.1 b (own_block h.o hb).1
theorem TnW.same (b : Below W.heap.size W W') : TnW w cd P x B0 pr arr v L X Y W' :=
  ⟨h.k.same b, h.b.step b, (Kp.of_below (col := cd.col) b).own h.o (fun _ hb => h.cold hb), (Mod.of_below (S := []) b).blk h.q (by simp), h.c⟩
theorem TnW.act (hc : ∀ q, q < w.heap.size + 1 → cd.col q = 0) {x' : CS} (k : CoAt W' cd P x') (kp : Kp cd.col W W') : TnW w cd P x' B0 pr arr v L X Y W' :=
  ⟨k, Bx_kp h.b kp hc, kp.own h.o (fun _ hb => h.cold hb), kp.blk h.q h.c.2.1, h.c⟩
theorem TnW.grow {v' : Value} {L' : List Ten.Ev} (ho : W'.ownsRow B0 54 4 v' L'.length (L'.flatMap Ten.decEv)) (hg : W.grownBy W' v.ownBlock) : TnW w cd P x B0 pr arr v' L' X Y W' := by
  have hm := grown_mod hg
  obtain ⟨c1, c2, c3, c4, c5⟩ := h.c
  have hS : ∀ b ∈ v.ownBlock.toList, B0 ≤ b := fun b hb => (own_block h.o (by simpa using hb)).1
  exact ⟨h.k.high c3 hm hS, Bx.mod h.b hm (fun b hb => by have := hS b hb; omega), ho, hm.blk h.q (fun hx => by have := hS _ hx; omega), h.c⟩
end
def TeJ (w : World) (cd : Cd) (P : Pm) (B0 pr : Nat) (arr : Array Value) (X Y : Value) (t : List Int) (C : Option Addr) (cap : Nat) (l : List Ac) (a : Act) (W : World) : Prop :=
  a.tmps.size = 114 ∧ a.defers = [] ∧ a.tmps.getD 2 undef = .slice C l.length cap ∧ a.tmps.getD 3 undef = .pointer (some ⟨w.heap.size, 0, none⟩) ∧ a.tmps.getD 8 undef = .pointer (some ⟨cd.gl, 0, none⟩) ∧ a.tmps.getD 9 undef = .pointer (some ⟨pr, 0, none⟩) ∧
    ∃ (k : Nat) (x : CS) (E : List Ten.Ev) (v : Value), a.tmps.getD 12 undef = .int .i64 (k : Int) ∧ a.tmps.getD 11 undef = v ∧ k ≤ l.length ∧ E.length ≤ k ∧ Tn P t x (33 + k) E ∧ TnW w cd P x B0 pr arr v E X Y W
theorem frame114 {a : Act} (h : a.tmps.size = 114) (hd : a.defers = []) : ∃ u : Nat → Value, a = { tmps := #[u 0, u 1, u 2, u 3, u 4, u 5, u 6, u 7, u 8, u 9, u 10, u 11, u 12, u 13, u 14, u 15, u 16, u 17, u 18, u 19, u 20, u 21, u 22, u 23, u 24, u 25, u 26, u 27, u 28, u 29, u 30, u 31, u 32, u 33, u 34, u 35, u 36, u 37, u 38, u 39, u 40, u 41, u 42, u 43, u 44, u 45, u 46, u 47, u 48, u 49, u 50, u 51, u 52, u 53, u 54, u 55, u 56, u 57, u 58, u 59, u 60, u 61, u 62, u 63, u 64, u 65, u 66, u 67, u 68, u 69, u 70, u 71, u 72, u 73, u 74, u 75, u 76, u 77, u 78, u 79, u 80, u 81, u 82, u 83, u 84, u 85, u 86, u 87, u 88, u 89, u 90, u 91, u 92, u 93, u 94, u 95, u 96, u 97, u 98, u 99, u 100, u 101, u 102, u 103, u 104, u 105, u 106, u 107, u 108, u 109, u 110, u 111, u 112, u 113], defers := [] } ∧ ∀ n, a.tmps.getD n undef = u n := by
  refine ⟨fun n => a.tmps.getD n undef, ?_, fun _ => rfl⟩
  have h1 := arr_lit a.tmps h
  cases a with
  | mk t d =>
    simp only at hd h1
    subst hd
    congr 1
section
variable (p t : List Int) (A B : Option Addr) (c d : Nat) (w : World) (hs : Sl w w.heap.size A (p.flatMap decI)) (ht : Sl w w.heap.size B (t.flatMap decI)) (hd : t.length ≤ d) (hn : d ≤ maxLen) (n0 n1 n2 : Int) (h0 : 0 ≤ n0 ∧ n0 ≤ 255) (h1 : 0 ≤ n1 ∧ n1 ≤ 255) (h2 : 0 ≤ n2 ∧ n2 ≤ 255) (C : Option Addr) (cap : Nat) (l : List Ac) (hlc : l.length ≤ cap) (hcm : cap ≤ maxLen) (hl : Sl w w.heap.size C (l.flatMap decAc))
include hs ht hd hn h0 h1 h2 hlc hcm hl
set_option maxRecDepth 100000 in
set_option maxHeartbeats 8000000 in
theorem tenure_walk : Calls Tryz.prog 7 #[(.agg #[.slice A p.length c, .slice B t.length d]), .agg #[.int .u8 n0, .int .u8 n1, .int .u8 n2], .slice C l.length cap] w fun e w' => e = .returned (.bool true) ∧ Below w.heap.size w w' := by
  have HAW := Lib.hid (fun W => awake_any W)
  have i9 : (l.length : Int) ≤ 9223372036854775807 := by simp only [maxLen] at hcm; omega
  have HS := Lib.hid hs
  have HT := Lib.hid ht
  have HLS := Lib.hid hl
  have HDN := Lib.hid (And.intro hd hn)
  clear hs ht hl hd hn
  by_cases hlen : l.length ≤ 150
  · have i1 : ¬ (150 : Int) < (l.length : Int) := by omega
    by_cases hok : chk p t = 0 ∧ t.length ≤ 8
    · obtain ⟨hck, h8⟩ := hok
      obtain ⟨l1, l2, l3, l4⟩ := chk_len hck
      have HMD := Lib.hid (fun W h3 h4 => made_ok p t A B c d W h3 h4 n0 n1 n2 h0 h1 h2 false hck h8)
      have q1 := fun a b c d W => fld0 a b c d W
      have HOK := Lib.hid (show (mwOf p t n0 n1 n2 false).Ok from nw_ok hck (by unfold kgOf; rw [if_neg (by decide)]; omega) (by unfold kgOf; rw [if_neg (by decide)]; omega) (by omega) (by omega))
      have HRM := Lib.hid (show (mwOf p t n0 n1 n2 false).tN (Ar.fresh 4096).t (mwOf p t n0 n1 n2 false).NN ≤ (Ar.fresh 4096).ws.length from nw_fits hck HOK.out (by omega))
      have HDJ := Lib.hid (Nw.dj HOK.out HRM.out)
      have HBR := Lib.hid (show Bud.right ((mwOf p t n0 n1 n2 false).pm (Ar.fresh 4096)).B = true from Bud.right_iff.2 ⟨by show 0 ≤ n2 % 4; omega, by show n2 % 4 ≤ 1000; omega⟩)
      have HC0 := Lib.hid (Nw.tn HOK.out HRM.out (fun k _ => zeros_at 4096 k) (by decide) (m := 33) (by show 0 + (lvs p).length + 1 ≤ 33; have := lvs_len p; omega) t)
      have HPT := Lib.hid (show ((mwOf p t n0 n1 n2 false).pm (Ar.fresh 4096)).T = t.length ∧ ((mwOf p t n0 n1 n2 false).pm (Ar.fresh 4096)).B = n2 % 4 from ⟨rfl, rfl⟩)
      have HNP := Lib.hid (show ∀ a b, a < ((mwOf p t n0 n1 n2 false).pm (Ar.fresh 4096)).T → b < ((mwOf p t n0 n1 n2 false).pm (Ar.fresh 4096)).T → ((mwOf p t n0 n1 n2 false).pm (Ar.fresh 4096)).nd a = ((mwOf p t n0 n1 n2 false).pm (Ar.fresh 4096)).nd b → t.getD a 0 = t.getD b 0 from fun a b ha hb e => nd_place hck ha hb e)
      have HLG := Lib.hid (fun W => Bud.longest_yes (n2 % 4) W (Bud.right_iff.2 (by omega)))
      have hn4 : 0 ≤ n2 % 4 ∧ n2 % 4 ≤ 3 := by omega
      clear h0 h1 h2
      go_enter Tryz.func7, Tryz.ntmps7
      go_upto_region 3 with fail
      have HX := Lib.hid ((Bx.made w (.slice A p.length c) (.slice B t.length d) 24).step (below_new _ (.cells #[.int .u8 n0, .int .u8 n1, .int .u8 n2] 25)))
      have hx9 := blk_new (w.alloc (.cells #[.slice A p.length c, .slice B t.length d] 24)) (.cells #[.int .u8 n0, .int .u8 n1, .int .u8 n2] 25)
      have hz9 : (w.alloc (.cells #[.slice A p.length c, .slice B t.length d] 24)).heap.size = w.heap.size + 1 := by simp
      rw [hz9] at hx9
      generalize (w.alloc (.cells #[.slice A p.length c, .slice B t.length d] 24)).alloc (.cells #[.int .u8 n0, .int .u8 n1, .int .u8 n2] 25) = W1 at *
      have c0 := HX.out.2.2.1
      have c1 := HX.out.2.2.2
      have d0 := blk_cell hx9 0 (by simp)
      have d1 := blk_cell hx9 1 (by simp)
      have d2 := blk_cell hx9 2 (by simp)
      simp at d0 d1 d2
      have hlt9 := lt_of_blk hx9
      clear hx9 hz9
      go_wp2_with fail
      refine (HMD.out _ (HX.out.sl HS.out) (HX.out.sl HT.out)).mono ?_
      rintro e W2 ⟨cd, rfl, hK, hcol, hb2⟩
      have HCOL := Lib.hid (show ∀ q, q < w.heap.size + 1 → cd.col q = 0 from fun q hq => hcol q (by omega))
      generalize (mwOf p t n0 n1 n2 false).pm (Ar.fresh 4096) = P at *
      generalize (mwOf p t n0 n1 n2 false).st (Ar.fresh 4096) = x0 at *
      have HX2 := Lib.hid (HX.out.step hb2)
      have hfr := hK.s.fresh
      have hW2 := HX2.out.2.1
      simp only [mpOf]
      have hW3 : (W2.alloc (.cells #[.int .i64 (kgOf n0 false), .int .i64 (kgOf n1 false), .int .i64 (1 + n2 / 4 % 4), .int .i64 (n2 % 4)] 30)).heap.size = W2.heap.size + 1 := by simp
      have hb3 := below_new W2 (.cells #[.int .i64 (kgOf n0 false), .int .i64 (kgOf n1 false), .int .i64 (1 + n2 / 4 % 4), .int .i64 (n2 % 4)] 30)
      have HL3 := Lib.hid (show TnW w cd P x0 (W2.heap.size + 1) W2.heap.size #[.int .i64 (kgOf n0 false), .int .i64 (kgOf n1 false), .int .i64 (1 + n2 / 4 % 4), .int .i64 (n2 % 4)] (.slice none 0 0) [] (.slice A p.length c) (.slice B t.length d) (W2.alloc (.cells #[.int .i64 (kgOf n0 false), .int .i64 (kgOf n1 false), .int .i64 (1 + n2 / 4 % 4), .int .i64 (n2 % 4)] 30)) from
        ⟨hK.same hb3, HX2.out.step hb3, World.ownsRow_nil _ _ _ _, blk_new _ _, fun q hq => hfr q (by omega), hfr _ (Nat.le_refl _), by have := (hK.same hb3).hi; rw [hW3] at this; exact this, by omega, by omega⟩)
      clear hK hcol hb2 HX c0 c1 d0 d1 d2 HMD HOK HRM hfr hW3 hb3 hW2 HX2
      go_upto_region 4 with fail
      generalize W2.alloc (.cells #[.int .i64 (kgOf n0 false), .int .i64 (kgOf n1 false), .int .i64 (1 + n2 / 4 % 4), .int .i64 (n2 % 4)] 30) = W3 at *
      generalize hpr : W2.heap.size = pr at *
      clear hpr
      go_wp2_with fail
      refine wp_loop (TeJ w cd P (pr + 1) pr #[.int .i64 (kgOf n0 false), .int .i64 (kgOf n1 false), .int .i64 (1 + n2 / 4 % 4), .int .i64 (n2 % 4)] (.slice A p.length c) (.slice B t.length d) t C cap l) (fun a' _ => l.length - (intOf (a'.tmps.getD 12 undef)).toNat) ?_ ?_
      · exact ⟨rfl, rfl, rfl, rfl, rfl, rfl, 0, x0, [], _, rfl, rfl, Nat.zero_le _, Nat.zero_le _, HC0.out, HL3.out⟩
      · clear HL3 HC0
        rintro a' W ⟨hsz, hdf, s2, s3, s8, s9, k, x, E, v, s12, s11, hk, hEk, hTn, hL⟩
        obtain ⟨u, rfl, hu⟩ := frame114 hsz hdf
        rw [hu] at s2 s3 s8 s9 s12 s11
        simp only [s2, s3, s8, s9, s12, s11]
        clear hsz hdf s2 s3 s8 s9 s12 s11 hu
        have HL := Lib.hid hL
        by_cases hlt : k < l.length
        · have i2 : (k : Int) < (l.length : Int) := by omega
          obtain ⟨b, off, rfl, hbb, hcell⟩ := Sl_at (dec := decAc) (k := 2) (fun _ => rfl) (by omega) HLS.out (by omega)
          have e0 := hcell k hlt 0 (by omega)
          have e1 := hcell k hlt 1 (by omega)
          simp only [decAc, List.getElem?_cons_zero, List.getElem?_cons_succ, Nat.add_zero, ← Nat.add_assoc] at e0 e1
          generalize l[k] = ac at *
          obtain ⟨kd, i⟩ := ac
          simp only at e0 e1
          have HE := Lib.hid (fun W' (h : Below w.heap.size w W') => And.intro ((h.cell (p := ⟨b, off + k * 2, none⟩) hbb).trans e0) ((h.cell (p := ⟨b, off + k * 2 + 1, none⟩) hbb).trans e1))
          clear e0 e1 hcell
          obtain ⟨e0, e1⟩ := HE.out W hL.b.1
          have HSP := Lib.hid (spot_co hL.k i)
          have HD := Lib.hid (fun W' (K' : CoAt W' cd P x) => do_co K' HDJ.out hTn.ci (by omega) HBR.out kd i)
          have HTN := Lib.hid (show Tn P t (doC P x kd i) (33 + (k + 1)) (E ++ evC P x (doC P x kd i) i) from hTn.act HDJ.out HPT.out.1 HNP.out kd i)
          have HEN := Lib.hid (show entB x (doC P x kd i) i = (decide ((spOf x.S i).pc < 10) && decide ((spOf (doC P x kd i).S i).pc = 10)) from rfl)
          have HEV := Lib.hid (show evC P x (doC P x kd i) i = if entB x (doC P x kd i) i then [⟨2, i, false, (spOf (doC P x kd i).S i).a⟩] else [] from rfl)
          clear hL hTn
          generalize doC P x kd i = x' at *
          generalize evC P x x' i = ev at *
          generalize entB x x' i = en at *
          generalize spOf x.S i = sp at *
          obtain ⟨xp, xa, xb, xc⟩ := sp
          simp only at HSP HEN
          go_wp2_with fail
          refine HSP.out.mono ?_
          rintro e w6 ⟨rfl, hb6⟩
          have hL6 := HL.out.same hb6
          have HL6 := Lib.hid hL6
          clear e0 e1
          obtain ⟨e0, e1⟩ := HE.out w6 hL6.b.1
          clear hL6 hb6
          go_wp2_with fail
          refine (HD.out _ HL6.out.k).mono ?_
          rintro e w7 ⟨rfl, hk7, hp7⟩
          have hL7 := HL6.out.act HCOL.out hk7 hp7
          have HL7 := Lib.hid hL7
          clear e0 e1
          obtain ⟨e0, e1⟩ := HE.out w7 hL7.b.1
          have HS7 := Lib.hid (spot_co hL7.k i)
          have HC7 := Lib.hid (fun W' (K' : CoAt W' cd P x') => count_co K' i)
          clear hk7 hp7 hL7 HD HL HSP HL6
          by_cases h10 : xp < 10
          · by_cases h11 : (spOf x'.S i).pc = 10
            · have hen : en = true := by rw [HEN.out, decide_eq_true h10, decide_eq_true h11]; rfl
              replace HEV := Lib.hid (HEV.out.trans (if_pos hen))
              clear hen HEN
              generalize spOf x'.S i = sp' at *
              obtain ⟨yp, ya, yb, yc⟩ := sp'
              simp only at HS7 h11 HEV
              subst h11
              rw [show cntV ⟨10, ya, yb, yc⟩ = ya from if_pos rfl] at HC7
              go_wp2_with fail
              refine HS7.out.mono ?_
              rintro e w8 ⟨rfl, hb8⟩
              have hL8 := HL7.out.same hb8
              have HL8 := Lib.hid hL8
              clear e0 e1
              obtain ⟨e0, e1⟩ := HE.out w8 hL8.b.1
              clear hb8 hL8 HL7 HS7
              go_wp2_with fail
              refine wp_region_held_drew (S := fun V => V.cell? ⟨b, off + k * 2, none⟩ = some (.int .i64 kd) ∧ V.cell? ⟨b, off + k * 2 + 1, none⟩ = some (.int .i64 i)) (by kernel_rfl) ⟨e0, e1⟩ (fun hHeld => ?_)
              refine take_to 0 (some 71) (v := ?_) rfl rfl (by kernel_rfl) (by kernel_rfl) (by kernel_rfl) (fun _ _ _ h => h) (Or.inl ⟨by rfl, ?_⟩) (by first | trivial | assumption) ?_
              rotate_left
              focus (intro w hSw; (try dsimp only at hSw); go_simp; (try with_reducible rfl))
              simp only [Act.put, List.setIfInBounds_toArray, List.set_cons_zero, List.set_cons_succ]
              refine take_to 1 (some 72) (v := ?_) rfl rfl (by kernel_rfl) (by kernel_rfl) (by kernel_rfl) (fun _ _ _ h => h) (Or.inl ⟨by rfl, ?_⟩) (by first | trivial | assumption) ?_
              rotate_left
              focus (intro w hSw; (try dsimp only at hSw); go_simp; (try with_reducible rfl))
              simp only [Act.put, List.setIfInBounds_toArray, List.set_cons_zero, List.set_cons_succ]
              refine take_to 2 (some 73) (v := ?_) rfl rfl (by kernel_rfl) (by kernel_rfl) (by kernel_rfl) (fun _ _ _ h => h) (Or.inl ⟨by rfl, ?_⟩) (by first | trivial | assumption) ?_
              rotate_left
              focus (intro w hSw; (try dsimp only at hSw); go_simp; (try with_reducible rfl))
              simp only [Act.put, List.setIfInBounds_toArray, List.set_cons_zero, List.set_cons_succ]
              refine take_to 3 (some 74) (v := ?_) rfl rfl (by kernel_rfl) (by kernel_rfl) (by kernel_rfl) (fun _ _ _ h => h) (Or.inl ⟨by rfl, ?_⟩) (by first | trivial | assumption) ?_
              rotate_left
              focus (intro w hSw; (try dsimp only at hSw); go_simp; (try with_reducible rfl))
              simp only [Act.put, List.setIfInBounds_toArray, List.set_cons_zero, List.set_cons_succ]
              refine take_to 4 (some 75) (v := ?_) rfl rfl (by kernel_rfl) (by kernel_rfl) (by kernel_rfl) (fun _ _ _ h => h) (Or.inl ⟨by rfl, ?_⟩) (by first | trivial | assumption) ?_
              rotate_left
              focus (intro w hSw; (try dsimp only at hSw); go_simp; (try with_reducible rfl))
              simp only [Act.put, List.setIfInBounds_toArray, List.set_cons_zero, List.set_cons_succ]
              refine take_to 5 (some 76) (v := ?_) rfl rfl (by kernel_rfl) (by kernel_rfl) (by kernel_rfl) (fun _ _ _ h => h) (Or.inl ⟨by rfl, ?_⟩) (by first | trivial | assumption) ?_
              rotate_left
              focus (intro w hSw; (try dsimp only at hSw); go_simp; (try with_reducible rfl))
              simp only [Act.put, List.setIfInBounds_toArray, List.set_cons_zero, List.set_cons_succ]
              refine take_to 6 (some 77) (v := ?_) rfl rfl (by kernel_rfl) (by kernel_rfl) (by kernel_rfl) (fun _ _ _ h => h) (Or.inl ⟨by rfl, ?_⟩) (by first | trivial | assumption) ?_
              rotate_left
              focus (intro w hSw; (try dsimp only at hSw); go_simp; (try with_reducible rfl))
              simp only [Act.put, List.setIfInBounds_toArray, List.set_cons_zero, List.set_cons_succ]
              refine take_to 7 (some 78) (v := ?_) rfl rfl (by kernel_rfl) (by kernel_rfl) (by kernel_rfl) (fun _ _ _ h => h) (Or.inl ⟨by rfl, ?_⟩) (by first | trivial | assumption) ?_
              rotate_left
              focus (intro w hSw; (try dsimp only at hSw); go_simp; (try with_reducible rfl))
              simp only [Act.put, List.setIfInBounds_toArray, List.set_cons_zero, List.set_cons_succ]
              refine take_to 8 (some 79) (v := ?_) rfl rfl (by kernel_rfl) (by kernel_rfl) (by kernel_rfl) (fun _ _ _ h => h) (Or.inl ⟨by rfl, ?_⟩) (by first | trivial | assumption) ?_
              rotate_left
              focus (intro w hSw; (try dsimp only at hSw); go_simp; (try with_reducible rfl))
              simp only [Act.put, List.setIfInBounds_toArray, List.set_cons_zero, List.set_cons_succ]
              refine take_to 9 (some 80) (v := ?_) rfl rfl (by kernel_rfl) (by kernel_rfl) (by kernel_rfl) (fun _ _ _ h => h) (Or.inl ⟨by rfl, ?_⟩) (by first | trivial | assumption) ?_
              rotate_left
              focus (intro w hSw; (try dsimp only at hSw); go_simp; (try with_reducible rfl))
              simp only [Act.put, List.setIfInBounds_toArray, List.set_cons_zero, List.set_cons_succ]
              refine take_to 10 (some 81) (v := ?_) rfl rfl (by kernel_rfl) (by kernel_rfl) (by kernel_rfl) (fun _ _ _ h => h) (Or.inl ⟨by rfl, ?_⟩) (by first | trivial | assumption) ?_
              rotate_left
              focus (intro w hSw; (try dsimp only at hSw); go_simp; (try with_reducible rfl))
              simp only [Act.put, List.setIfInBounds_toArray, List.set_cons_zero, List.set_cons_succ]
              refine take_to 11 (some 82) (v := ?_) rfl rfl (by kernel_rfl) (by kernel_rfl) (by kernel_rfl) (fun _ _ _ h => h) (Or.inl ⟨by rfl, ?_⟩) (by first | trivial | assumption) ?_
              rotate_left
              focus (intro w hSw; (try dsimp only at hSw); go_simp; (try with_reducible rfl))
              simp only [Act.put, List.setIfInBounds_toArray, List.set_cons_zero, List.set_cons_succ]
              have HL9 := Lib.hid (HL8.out.same (below_drewN (Below.refl _ _) 1))
              refine wpAnyH_ready (rs := [12]) (by kernel_rfl) (by simp) ?_
              refine AllReadyH.cons rfl (fun K hK => ?_) AllReadyH.nil
              go_simp
              refine (HC7.out _ HL9.out.k).mono ?_
              rintro e w9 ⟨rfl, hb9⟩
              have hLa := HL9.out.same hb9
              have HLa := Lib.hid hLa
              have ea := HE.out w9 hLa.b.1
              clear hLa hb9
              go_simp
              refine hK.out _ _ ea (fun hHeld => ?_)
              refine take_to 13 (some 84) (v := ?_) rfl rfl (by kernel_rfl) (by kernel_rfl) (by kernel_rfl) (fun _ _ _ h => h) (Or.inl ⟨by rfl, ?_⟩) (by first | trivial | assumption) ?_
              rotate_left
              focus (intro w hSw; (try dsimp only at hSw); go_simp; (try with_reducible rfl))
              simp only [Act.put, List.setIfInBounds_toArray, List.set_cons_zero, List.set_cons_succ]
              refine wpAnyH_ready (rs := [14]) (by kernel_rfl) (by simp) ?_
              refine AllReadyH.cons rfl (fun K hK => ?_) AllReadyH.nil
              go_simp
              have hLb := HLa.out.same (below_new w9 (.cells #[.int .i64 2, .int .i64 i, .bool false, .int .i64 ya] 54))
              have eb := HE.out _ hLb.b.1
              clear hLb
              refine hK.out _ _ eb (fun hHeld => ?_)
              refine wpAnyH_ready (rs := [15]) (by kernel_rfl) (by simp) ?_
              refine AllReadyH.cons rfl (fun K hK => ?_) AllReadyH.nil
              refine Pa.wp_append1n (.tmp 71) (.tmp 85) 52 54 _ 4 32 rfl Tryz.underlying52 Ten.infoEv rfl (by decide) (pr + 1) w9 v E.length _ _ _ _ _ HLa.out.o rfl rfl rfl rfl (by simp [Value.oneCell']) (by simp only [maxLen]; omega) (by omega) (by have h9 := HLa.out.b.1.size; have h8 := (lt_of_blk HLa.out.q); omega) (fun v' w10 hown hgr hnb => ?_)
              have HLc := Lib.hid (show TnW w cd P x' (pr + 1) pr #[.int .i64 (kgOf n0 false), .int .i64 (kgOf n1 false), .int .i64 (1 + n2 / 4 % 4), .int .i64 (n2 % 4)] v' (E ++ [⟨2, i, false, ya⟩]) (.slice A p.length c) (.slice B t.length d) w10 from HLa.out.grow (by rw [List.length_append, List.flatMap_append]; exact hown.out) hgr.out)
              have ec := HE.out _ HLc.out.b.1
              clear hown hgr hnb
              simp only [Act.put, List.setIfInBounds_toArray, List.set_cons_zero, List.set_cons_succ]
              refine hK.out _ _ ec (fun hHeld => ?_)
              refine take_to 16 (some 11) (v := ?_) rfl rfl (by kernel_rfl) (by kernel_rfl) (by kernel_rfl) (fun _ _ _ h => h) (Or.inl ⟨by rfl, ?_⟩) (by first | trivial | assumption) ?_
              rotate_left
              focus (intro w hSw; (try dsimp only at hSw); go_simp; (try with_reducible rfl))
              simp only [Act.put, List.setIfInBounds_toArray, List.set_cons_zero, List.set_cons_succ]
              refine wpAnyH_done (by kernel_rfl) ?_ _
              go_wp2_with fail
              go_roundw
              case rel => exact ⟨rfl, rfl, rfl, rfl, rfl, rfl, k + 1, x', E ++ [⟨2, i, false, ya⟩], v', by go_num, rfl, by omega, by simp; omega, by have := HTN.out; rw [HEV.out] at this; exact this, HLc.out⟩
              case measure => simp [intOf]; omega
            · have hen : ¬ en = true := by rw [HEN.out, decide_eq_false h11, Bool.and_false]; decide
              replace HEV := Lib.hid (HEV.out.trans (if_neg hen))
              clear hen HEN
              generalize spOf x'.S i = sp' at *
              obtain ⟨yp, ya, yb, yc⟩ := sp'
              simp only at HS7 h11
              have g9 := ibeq_no h11
              clear h11
              go_wp2_with fail
              refine HS7.out.mono ?_
              rintro e w8 ⟨rfl, hb8⟩
              have HL8 := Lib.hid (HL7.out.same hb8)
              clear hb8
              go_wp2_with fail
              go_roundw
              case rel => exact ⟨rfl, rfl, rfl, rfl, rfl, rfl, k + 1, x', E, v, by go_num, rfl, by omega, by omega, by have := HTN.out; rw [HEV.out, List.append_nil] at this; exact this, HL8.out⟩
              case measure => simp [intOf]; omega
          · have hen : ¬ en = true := by rw [HEN.out, decide_eq_false h10, Bool.false_and]; decide
            replace HEV := Lib.hid (HEV.out.trans (if_neg hen))
            clear hen HEN
            have g9 := decide_eq_false h10
            have HL8 := HL7
            go_wp2_with fail
            go_roundw
            case rel => exact ⟨rfl, rfl, rfl, rfl, rfl, rfl, k + 1, x', E, v, by go_num, rfl, by omega, by omega, by have := HTN.out; rw [HEV.out, List.append_nil] at this; exact this, HL8.out⟩
            case measure => simp [intOf]; omega
        · obtain rfl : k = l.length := by omega
          have i2 : ¬ (l.length : Int) < (l.length : Int) := by omega
          obtain ⟨out, hof, hlo⟩ := hTn.of (show 0 ≤ P.B by rw [HPT.out.2]; omega)
          rw [HPT.out.2] at hlo
          obtain ⟨A2, c2, rfl, hc2, hc3, hs2⟩ := own_slice hL.o
          have HO := Ten.of_any t E B A2 d c2 W HDN.out.1 HDN.out.2 (by omega) (hL.b.sl HT.out) hs2
          rw [hof] at HO
          have HO := Lib.hid HO
          have c1 := hL.b.2.2.2
          clear hL hs2 hof hTn
          go_wp2_with fail
          refine HO.out.mono ?_
          rintro e W4 ⟨v4, rfl, hown4, hb4⟩
          obtain ⟨A3, c3, rfl, hc4, hc5, hs4⟩ := own_slice hown4
          have HL4 := Lib.hid (HL.out.same hb4)
          have hol : out.length ≤ 9223372036854775807 := by simp only [maxLen] at hc5; omega
          have HLN := Lib.hid (Ten.longest_any out A3 c3 W4 hol hs4)
          have p3 := blk_cell HL4.out.q 3 (by simp)
          simp at p3
          clear hown4 hs4 hb4 c1 HO HL
          go_wp2_with fail
          refine (HLG.out _).mono ?_
          rintro e wx ⟨rfl, hwx⟩
          obtain rfl := hwx.symm
          generalize Ten.longest out = lo at *
          go_wp2_with fail
          refine HLN.out.mono ?_
          rintro e W5 ⟨rfl, hb5⟩
          have HL5 := Lib.hid (HL4.out.same hb5)
          clear hb5 HL4 p3
          go_wp2_with fail
          refine (HAW.out _).mono ?_
          rintro e w6 ⟨rfl, hb6⟩
          have HB6 := Lib.hid (HL5.out.b.1.trans (hb6.mono HL5.out.b.1.size))
          clear hb6
          go_wp2_with fail
          go_ret
          exact ⟨rfl, HB6.out⟩
    · have HMD := Lib.hid (fun W h3 h4 => made_no p t A B c d W h3 h4 n0 n1 n2 h0 h1 h2 false hok)
      have hsm := fun W h3 h4 => Rn.small_any p t A B c d W h3 h4 8
      rw [show (decide (chk p t = 0) && decide ((t.length : Int) ≤ 8)) = false by
        rcases Classical.em (chk p t = 0) with h9 | h9
        · rw [decide_eq_false (show ¬ (t.length : Int) ≤ 8 by omega), Bool.and_false]
        · rw [decide_eq_false h9, Bool.false_and]] at hsm
      have HSM := Lib.hid hsm
      clear h0 h1 h2 hsm hok
      go_enter Tryz.func7, Tryz.ntmps7
      go_upto_region 3 with fail
      have HX := Lib.hid ((Bx.made w (.slice A p.length c) (.slice B t.length d) 24).step (below_new _ (.cells #[.int .u8 n0, .int .u8 n1, .int .u8 n2] 25)))
      have hx9 := blk_new (w.alloc (.cells #[.slice A p.length c, .slice B t.length d] 24)) (.cells #[.int .u8 n0, .int .u8 n1, .int .u8 n2] 25)
      have hz9 : (w.alloc (.cells #[.slice A p.length c, .slice B t.length d] 24)).heap.size = w.heap.size + 1 := by simp
      rw [hz9] at hx9
      generalize (w.alloc (.cells #[.slice A p.length c, .slice B t.length d] 24)).alloc (.cells #[.int .u8 n0, .int .u8 n1, .int .u8 n2] 25) = W1 at *
      have c0 := HX.out.2.2.1
      have c1 := HX.out.2.2.2
      have d0 := blk_cell hx9 0 (by simp)
      have d1 := blk_cell hx9 1 (by simp)
      have d2 := blk_cell hx9 2 (by simp)
      simp at d0 d1 d2
      have hlt9 := lt_of_blk hx9
      clear hx9 hz9
      go_wp2_with fail
      refine (HMD.out _ (HX.out.sl HS.out) (HX.out.sl HT.out)).mono ?_
      rintro e W2 ⟨rfl, hb2⟩
      have HX2 := Lib.hid (HX.out.step hb2)
      clear hb2 HX c0 c1 d0 d1 d2 HMD
      simp only [mpOf]
      have HX3 := Lib.hid (HX2.out.step (below_new W2 (.cells #[.int .i64 (kgOf n0 false), .int .i64 (kgOf n1 false), .int .i64 (1 + n2 / 4 % 4), .int .i64 (n2 % 4)] 30)))
      have c0 := HX3.out.2.2.1
      have c1 := HX3.out.2.2.2
      go_wp2_with fail
      refine (HSM.out _ (HX3.out.sl HS.out) (HX3.out.sl HT.out)).mono ?_
      rintro e W3 ⟨rfl, hb3⟩
      have HX4 := Lib.hid (HX3.out.step hb3)
      clear hb3 c0 c1
      go_wp2_with fail
      refine (HAW.out _).mono ?_
      rintro e w5 ⟨rfl, hb5⟩
      have HB5 := Lib.hid (HX4.out.1.trans (hb5.mono HX4.out.1.size))
      clear hb5
      go_wp2_with fail
      go_ret
      exact ⟨rfl, HB5.out⟩
  · have i1 : (150 : Int) < (l.length : Int) := by omega
    have hb0 := (below_new w (.cells #[.slice A p.length c, .slice B t.length d] 24)).trans ((below_new (w.alloc (.cells #[.slice A p.length c, .slice B t.length d] 24)) (.cells #[.int .u8 n0, .int .u8 n1, .int .u8 n2] 25)).mono (by simp))
    have HB0 := Lib.hid hb0
    clear hb0
    go_enter Tryz.func7, Tryz.ntmps7
    go_wp2_with fail
    refine (HAW.out _).mono ?_
    rintro e w5 ⟨rfl, hb5⟩
    have HB5 := Lib.hid (HB0.out.trans (hb5.mono HB0.out.size))
    clear hb5
    go_wp2_with fail
    go_ret
    exact ⟨rfl, HB5.out⟩
end
theorem tenure_law (w : World) (A B : Option Addr) (c d : Nat) (p t : List Int) (_hc : p.length ≤ c) (_hm : c ≤ maxLen) (hd : t.length ≤ d) (hn : d ≤ maxLen) (hs : Sl w w.heap.size A (p.flatMap decI)) (ht : Sl w w.heap.size B (t.flatMap decI)) (n : List Int) (hn3 : n.length = 3 ∧ ∀ a ∈ n, isU8 a)
    (C : Option Addr) (cap : Nat) (l : List Ac) (hlc : l.length ≤ cap) (hcm : cap ≤ maxLen) (_w0 : ∀ e ∈ l, isI64 e.kind ∧ isI64 e.i) (hl : Sl w w.heap.size C (l.flatMap decAc)) :
    Calls Tryz.prog 7 #[(.agg #[.slice A p.length c, .slice B t.length d]), .agg (n.flatMap fun n => [.int .u8 n]).toArray, .slice C l.length cap] w fun e w' => e = .returned (.bool true) ∧ Below w.heap.size w w' := by
  obtain ⟨n0, n1, n2, rfl⟩ := list3 hn3.1
  exact tenure_walk p t A B c d w hs ht hd hn n0 n1 n2 (hn3.2 n0 (by simp)) (hn3.2 n1 (by simp)) (hn3.2 n2 (by simp)) C cap l hlc hcm hl
end Go.Proofs.YtfnmggmgdmokcaaGreat.Cm

