/- Merged texts: Na2. -/
import Derived.Test.YtfnmggmgdmokcaaGreatDoorNq21
import Derived.Lib.SlicesS
import Derived.Deep.Cut
set_option linter.unusedVariables false
/- Package named: the lock of a name. -/
namespace Go.Proofs.YtfnmggmgdmokcaaGreatDoor.Na
open Go.RowKit Go.Sort Go.Proofs.YtfnmggmgdmokcaaGreatDoor.Li Go.Proofs.YtfnmggmgdmokcaaGreatDoor.De

theorem B_inj {x y : List UInt8} (h : B x = B y) : x = y := by
  have := congrArg L h
  rwa [L_B, L_B] at this
theorem idx_ix : ∀ (r : List (List UInt8)) (y : List UInt8) (i : Nat), Lib.idxFromS (r.map B) (B y) i = ixF r y i
  | [], _, _ => rfl
  | x :: r, y, i => by
    show (if B x = B y then (i : Int) else Lib.idxFromS (r.map B) (B y) (i + 1)) = if x = y then (i : Int) else ixF r y ((i : Int) + 1)
    by_cases e : x = y
    · rw [if_pos e, if_pos (by rw [e])]
    · rw [if_neg e, if_neg (fun h => e (B_inj h)), idx_ix r y (i + 1)]
      rfl
theorem nm_B (j : Nat) (h : j < 5) : (nmL.map B).getD j ByteArray.empty = B (nmA j) := by
  rcases (show j = 0 ∨ j = 1 ∨ j = 2 ∨ j = 3 ∨ j = 4 by omega) with rfl | rfl | rfl | rfl | rfl <;> rfl
theorem index_any (g c : Nat) (y : List UInt8) (w : World) (hc : ∀ j, j < 5 → w.cell? ⟨g, j, none⟩ = some (vS (nmA j))) :
    Calls Tryz.prog 22 #[.slice (some ⟨g, 0, none⟩) 5 c, vS y] w fun e w' => e = .returned (.int .i64 (ixN y)) ∧ w' = w := by
  have h := Tryz.slices_Index_string g 0 5 c (nmL.map B) (B y) w (by decide) (by decide) (fun j hj => by
    have hj5 : j < 5 := hj
    rw [Nat.zero_add, hc j hj5, nm_B j hj5])
  have e : Lib.idxOfS ((nmL.map B).take 5) (B y) = ixN y := idx_ix nmL y 0
  rw [e] at h
  exact h
theorem split_n (t : List UInt8) (c : UInt8) (w : World) (hs : t.length ≤ 4096) (hN : Nk w) :
    Calls Tryz.prog 19 #[vS t, .string ⟨#[c]⟩] w fun e w' => e = .returned (.slice (some ⟨w.heap.size, 0, none⟩) (cut c [] t).length (cut c [] t).length) ∧ w' = w.alloc (.cells (((cut c [] t).map vS).toArray) 9) := by
  obtain ⟨m, hm⟩ := hN.mx
  have h2 := Tryz.strings_Split (B t) ⟨#[c]⟩ m w (by rw [size_B]; omega) hm (by show 1 ≤ 1; omega)
  have h3 := split_L (B t) c
  rw [L_B] at h3
  have h4 : Lib.countB (B t) (B [c]) + 1 = (cut c [] t).length := (cut_len c t []).symm
  refine h2.mono ?_
  rintro e w' ⟨rfl, rfl⟩
  refine ⟨?_, ?_⟩
  · show Ending.returned (Value.slice _ (Lib.countB (B t) (B [c]) + 1) (Lib.countB (B t) (B [c]) + 1)) = _
    rw [h4]
  · show w.alloc (.cells ((List.map Value.string (Lib.splitB (B [c]) 0 (Lib.countB (B t) (B [c])) (B t))).toArray) _) = _
    rw [h3, List.map_map]
    rfl
def PsR (R : (Int × Int × Int × Int) × Int) (w : World) (e : Ending) (w' : World) : Prop :=
  e = .returned (.tuple #[.agg #[.int .i64 R.1.1, .int .i64 R.1.2.1, .int .i64 R.1.2.2.1, .int .i64 R.1.2.2.2], .int .i64 R.2]) ∧ Below w.heap.size w w'
theorem bset {w W : World} {B g i : Nat} {u : Value} (h : Below B w W) (hg : B ≤ g) : Below B w (W.setCell ⟨g, i, none⟩ u) := h.setCell (p := ⟨g, i, none⟩) hg u
def Res (w W : World) : Prop := Below w.heap.size w W ∧ W.heap[w.heap.size]? = some (.cells #[.int .i64 0, .int .i64 0, .int .i64 0, .int .i64 0] 23 (0, 0))
theorem Res.step {w W V : World} (h : Res w W) (b : Below W.heap.size W V) : Res w V := ⟨h.1.trans (b.mono h.1.size), (b.block _ (lt_of_blk h.2)).trans h.2⟩
theorem parts_none {k : Option (List UInt8 × List UInt8 × List UInt8)} {n m : Option Int} (h : k = none ∨ n = none ∨ m = none) : partsN k n m = ((0, 0, 0, 0), 2) := by
  unfold partsN
  split
  · rcases h with h | h | h <;> cases h
  · rfl
theorem parts_bad {x y z : List UInt8} (h : ¬ (x = [67] ∧ caps y = true ∧ caps z = true)) (n m : Option Int) : partsN (some (x, y, z)) n m = ((0, 0, 0, 0), 2) := by
  cases n with
  | none => rfl
  | some n =>
    cases m with
    | none => rfl
    | some m =>
      show fillN x y z n m = _
      unfold fillN
      rw [if_neg h]
theorem ixF_ge : ∀ (r : List (List UInt8)) (y : List UInt8) (k : Int), 0 ≤ k → -1 ≤ ixF r y k ∧ ixF r y k ≤ k + r.length
  | [], y, k, hk => by unfold ixF; simp only [List.length_nil]; omega
  | x :: r, y, k, hk => by
    unfold ixF
    have := ixF_ge r y (k + 1) (by omega)
    rw [List.length_cons]
    split <;> omega
theorem ix_wrap (y : List UInt8) : IntKind.i64.wrap (1 + ixN y) = 1 + ixN y := by
  have := ixF_ge nmL y 0 (Int.le_refl _)
  have h5 : nmL.length = 5 := rfl
  exact IntWalk.i64_in _ (by show -9223372036854775808 ≤ 1 + ixF nmL y 0 ∧ 1 + ixF nmL y 0 ≤ 9223372036854775807; omega)
structure Pq (w : World) (gk : Nat) (y z : List UInt8) (V : World) : Prop where
  r : Res w V
  n : Nk V
  l : gk < V.heap.size
  k : V.cell? ⟨gk, 1, none⟩ = some (vS y) ∧ V.cell? ⟨gk, 2, none⟩ = some (vS z)
theorem Pq.step {w V V' : World} {gk : Nat} {y z : List UInt8} (h : Pq w gk y z V) (b : Below V.heap.size V V') : Pq w gk y z V' :=
  ⟨h.r.step b, h.n.step b, Nat.lt_of_lt_of_le h.l b.size, (b.cell (p := ⟨gk, 1, none⟩) h.l).trans h.k.1, (b.cell (p := ⟨gk, 2, none⟩) h.l).trans h.k.2⟩
theorem cell_mod {W W' : World} {S : List Nat} (hm : Mod S W W') {p : Addr} (hp : p.block < W.heap.size) (hn : p.block ∉ S) : W'.cell? p = W.cell? p := by
  have := hm.block p.block hp hn
  unfold World.cell?
  rw [this]
theorem Pq.put {w V V' : World} {gk b : Nat} {y z : List UInt8} (h : Pq w gk y z V) (hm : Mod [b] V V') (h1 : gk < b) (h2 : w.heap.size < b) (h3 : 2 ≤ b) : Pq w gk y z V' := by
  have hs := h.n.sz
  have hr := h.r.1
  have hl := lt_of_blk h.r.2
  refine ⟨⟨Mod.below_of hr hm hr.size (by simp; omega), hm.blk h.r.2 (by simp; omega)⟩, ⟨?_, fun j hj => (cell_mod hm (p := ⟨0, j, none⟩) (by show 0 < _; omega) (by simp; omega)).trans (h.n.nm j hj), Nat.le_trans hs hm.size⟩, Nat.lt_of_lt_of_le h.l hm.size, (cell_mod hm (p := ⟨gk, 1, none⟩) h.l (by simp; omega)).trans h.k.1, (cell_mod hm (p := ⟨gk, 2, none⟩) h.l (by simp; omega)).trans h.k.2⟩
  obtain ⟨m, hm2⟩ := h.n.mx
  exact ⟨m, (cell_mod hm (p := ⟨1, 0, none⟩) (by show 1 < _; omega) (by simp; omega)).trans hm2⟩
structure Pz (w : World) (gk b : Nat) (V : World) : Prop where
  x : V.heap[b]? = some (.cells #[.int .i64 0, .int .i64 0, .int .i64 0, .int .i64 0] 23 (0, 0))
  l : gk < b ∧ w.heap.size < b ∧ 2 ≤ b
theorem Pz.step {w V V' : World} {gk b : Nat} (h : Pz w gk b V) (hb : Below V.heap.size V V') : Pz w gk b V' := ⟨(hb.block _ (lt_of_blk h.x)).trans h.x, h.l⟩
structure Rw5 (g : Nat) (V : World) : Prop where
  c : ∀ j, j < 5 → V.cell? ⟨g, j, none⟩ = some (vS (nmA j))
  l : g < V.heap.size
theorem Rw5.step {g : Nat} {V V' : World} (h : Rw5 g V) (b : Below V.heap.size V V') : Rw5 g V' := ⟨fun j hj => (b.cell (p := ⟨g, j, none⟩) h.l).trans (h.c j hj), Nat.lt_of_lt_of_le h.l b.size⟩
theorem Pz.made {w V : World} {gk : Nat} {y z : List UInt8} (h : Pq w gk y z V) : Pz w gk V.heap.size (V.alloc (.cells #[.int .i64 0, .int .i64 0, .int .i64 0, .int .i64 0] 23)) := ⟨blk_new _ _, h.l, lt_of_blk h.r.2, h.n.sz⟩
theorem pz_fin {w V : World} {gk b : Nat} {y z : List UInt8} (h : Pq w gk y z V) (h2 : Pz w gk b V) (g l p n : Int) :
    Pq w gk y z ((((V.setCell ⟨b, 0, none⟩ (.int .i64 g)).setCell ⟨b, 1, none⟩ (.int .i64 l)).setCell ⟨b, 2, none⟩ (.int .i64 p)).setCell ⟨b, 3, none⟩ (.int .i64 n)) ∧
    ((((V.setCell ⟨b, 0, none⟩ (.int .i64 g)).setCell ⟨b, 1, none⟩ (.int .i64 l)).setCell ⟨b, 2, none⟩ (.int .i64 p)).setCell ⟨b, 3, none⟩ (.int .i64 n)).heap[b]? = some (.cells #[.int .i64 g, .int .i64 l, .int .i64 p, .int .i64 n] 23 (0, 0)) := by
  refine ⟨h.put (b := b) ?_ h2.l.1 h2.l.2.1 h2.l.2.2, ?_⟩
  · exact ((((Mod.refl [b] V).setCell (p := ⟨b, 0, none⟩) (by simp) _).setCell (p := ⟨b, 1, none⟩) (by simp) _).setCell (p := ⟨b, 2, none⟩) (by simp) _).setCell (p := ⟨b, 3, none⟩) (by simp) _
  · have h0 := blk_set h2.x 0 (.int .i64 g)
    have h1 := blk_set h0 1 (.int .i64 l)
    have h2 := blk_set h1 2 (.int .i64 p)
    have h3 := blk_set h2 3 (.int .i64 n)
    simpa using h3
def PjJ (w : World) (g l par n : Int) (a : Act) (W : World) : Prop :=
  a.tmps.size = 94 ∧ a.defers = [] ∧ a.tmps.getD 2 undef = .pointer (some ⟨w.heap.size, 0, none⟩) ∧ ∃ b, a.tmps.getD 10 undef = .pointer (some ⟨b, 0, none⟩) ∧ W.heap[b]? = some (.cells #[.int .i64 g, .int .i64 l, .int .i64 par, .int .i64 n] 23 (0, 0)) ∧ Nk W ∧ Res w W
theorem frame94 {a : Act} (h : a.tmps.size = 94) (hd : a.defers = []) : ∃ u : Nat → Value, a = { tmps := #[u 0, u 1, u 2, u 3, u 4, u 5, u 6, u 7, u 8, u 9, u 10, u 11, u 12, u 13, u 14, u 15, u 16, u 17, u 18, u 19, u 20, u 21, u 22, u 23, u 24, u 25, u 26, u 27, u 28, u 29, u 30, u 31, u 32, u 33, u 34, u 35, u 36, u 37, u 38, u 39, u 40, u 41, u 42, u 43, u 44, u 45, u 46, u 47, u 48, u 49, u 50, u 51, u 52, u 53, u 54, u 55, u 56, u 57, u 58, u 59, u 60, u 61, u 62, u 63, u 64, u 65, u 66, u 67, u 68, u 69, u 70, u 71, u 72, u 73, u 74, u 75, u 76, u 77, u 78, u 79, u 80, u 81, u 82, u 83, u 84, u 85, u 86, u 87, u 88, u 89, u 90, u 91, u 92, u 93], defers := [] } ∧ ∀ n, a.tmps.getD n undef = u n := by
  refine ⟨fun n => a.tmps.getD n undef, ?_, fun _ => rfl⟩
  have h1 := arr_lit a.tmps h
  cases a with
  | mk t d =>
    simp only at hd h1
    subst hd
    congr 1
set_option maxRecDepth 100000 in
set_option maxHeartbeats 8000000 in
theorem nparse_any (s : List UInt8) (hl : s.length ≤ 4000) (w : World) (hN : Nk w) : Calls Tryz.prog 7 #[vS s] w (PsR (parseN s) w) := by
  have HT := Lib.hid (show Res w (w.alloc (.cells #[.int .i64 0, .int .i64 0, .int .i64 0, .int .i64 0] 23)) from ⟨below_new _ _, blk_new _ _⟩)
  have HN := Lib.hid (hN.step (below_new w (.cells #[.int .i64 0, .int .i64 0, .int .i64 0, .int .i64 0] 23)))
  have HS := Lib.hid (fun W (h : Nk W) => split_n s 47 W (by omega) h)
  clear hN
  have hj := join_cut 47 s []
  by_cases h3 : (cut 47 [] s).length = 3
  · obtain ⟨a, b, c, e3⟩ := three_len h3
    rw [e3] at HS hj
    have hP : parseN s = partsN (three (cut 45 [] a)) (prs b) (prs c) := by
      unfold parseN
      rw [e3]
      rfl
    have hlen : s.length = a.length + (1 + b.length) + (1 + c.length) := by
      rw [show s = a ++ 47 :: (b ++ 47 :: c) from hj.symm]
      simp only [List.length_append, List.length_cons]
      omega
    have HP := Lib.hid hP
    have HB := Lib.hid (fun W => parse_any b (by omega) W)
    have HC := Lib.hid (fun W => parse_any c (by omega) W)
    have HS2 := Lib.hid (fun W (h : Nk W) => split_n a 45 W (by omega) h)
    have HAL := Lib.hid (show a.length ≤ 4000 by omega)
    clear hP hj hlen h3 e3
    replace HS : Hid (∀ W, Nk W → Calls Tryz.prog 19 #[vS s, .string ⟨#[47]⟩] W fun e w' => e = .returned (.slice (some ⟨W.heap.size, 0, none⟩) 3 3) ∧ w' = W.alloc (.cells #[vS a, vS b, vS c] 9)) := Lib.hid (fun W h => HS.out W h)
    have HRB := Lib.hid (pr_ok b)
    have HRC := Lib.hid (pr_ok c)
    generalize pr b = pb at *
    generalize pr c = pc at *
    obtain ⟨nb, eb⟩ := pb
    obtain ⟨nc, ec⟩ := pc
    simp only at HB HC
    by_cases k3 : (cut 45 [] a).length = 3
    · obtain ⟨x, y, z, ek⟩ := three_len k3
      rw [ek] at HP HS2
      have hj2 := join_cut 45 a []
      rw [ek] at hj2
      clear k3 ek
      replace HS2 : Hid (∀ W, Nk W → Calls Tryz.prog 19 #[vS a, .string ⟨#[45]⟩] W fun e w' => e = .returned (.slice (some ⟨W.heap.size, 0, none⟩) 3 3) ∧ w' = W.alloc (.cells #[vS x, vS y, vS z] 9)) := Lib.hid (fun W h => HS2.out W h)
      have HLA := Lib.hid (show y.length ≤ 4096 ∧ z.length ≤ 4096 by
        have h1 : a.length = x.length + (1 + y.length) + (1 + z.length) := by
          rw [show a = x ++ 45 :: (y ++ 45 :: z) from hj2.symm]
          simp only [List.length_append, List.length_cons]
          omega
        have := HAL.out
        omega)
      clear hj2
      replace HP := Lib.hid (show parseN s = partsN (some (x, y, z)) (prs b) (prs c) from HP.out)
      have HCY := Lib.hid (fun W => caps_any y HLA.out.1 W)
      have HCZ := Lib.hid (fun W => caps_any z HLA.out.2 W)
      go_enter Tryz.func7, Tryz.ntmps7
      go_wp2_with fail
      refine (HS.out _ HN.out).mono ?_
      rintro e w2 ⟨rfl, rfl⟩
      have hbw := below_new (w.alloc (.cells #[.int .i64 0, .int .i64 0, .int .i64 0, .int .i64 0] 23)) (.cells #[vS a, vS b, vS c] 9)
      have hxw := blk_new (w.alloc (.cells #[.int .i64 0, .int .i64 0, .int .i64 0, .int .i64 0] 23)) (.cells #[vS a, vS b, vS c] 9)
      replace HT := Lib.hid (HT.out.step hbw)
      replace HN := Lib.hid (HN.out.step hbw)
      generalize (w.alloc (.cells #[.int .i64 0, .int .i64 0, .int .i64 0, .int .i64 0] 23)).alloc (.cells #[vS a, vS b, vS c] 9) = W2 at *
      generalize (w.alloc (.cells #[.int .i64 0, .int .i64 0, .int .i64 0, .int .i64 0] 23)).heap.size = gw at *
      have c0 := blk_cell hxw 0 (by simp)
      simp at c0
      have HXW := Lib.hid hxw
      clear hbw hxw
      go_wp2_with fail
      refine (HS2.out _ HN.out).mono ?_
      rintro e w3 ⟨rfl, rfl⟩
      clear c0
      have hbk := below_new W2 (.cells #[vS x, vS y, vS z] 9)
      have hxk := blk_new W2 (.cells #[vS x, vS y, vS z] 9)
      replace HT := Lib.hid (HT.out.step hbk)
      replace HN := Lib.hid (HN.out.step hbk)
      have hxw := (hbk.block _ (lt_of_blk HXW.out)).trans HXW.out
      generalize W2.alloc (.cells #[vS x, vS y, vS z] 9) = W3 at *
      generalize W2.heap.size = gk at *
      have c1 := blk_cell hxw 1 (by simp)
      have c2 := blk_cell hxw 2 (by simp)
      simp at c1 c2
      have HXK := Lib.hid hxk
      clear hbk hxk hxw HXW HS HS2
      go_wp2_with fail
      refine (HB.out _).mono ?_
      rintro e wx ⟨rfl, hwx⟩
      obtain rfl := hwx.symm
      go_wp2_with fail
      refine (HC.out _).mono ?_
      rintro e wx ⟨rfl, hwx⟩
      obtain rfl := hwx.symm
      clear c1 c2 HB HC
      have k0 := blk_cell HXK.out 0 (by simp)
      have k1 := blk_cell HXK.out 1 (by simp)
      have k2 := blk_cell HXK.out 2 (by simp)
      simp at k0 k1 k2
      by_cases hx : x = [67]
      · have q : (x == ([67] : List UInt8)) = true := beq_iff_eq.2 hx
        cases hy : caps y with
        | false =>
          have HE := Lib.hid (HP.out.trans (parts_bad (fun h => by rw [hy] at h; exact absurd h.2.1 (by decide)) _ _))
          rw [hy] at HCY
          clear hx hy HP
          go_wp2_with fail
          refine (HCY.out _).mono ?_
          rintro e wx ⟨rfl, hwx⟩
          obtain rfl := hwx.symm
          have g0 := blk_cell HT.out.2 0 (by simp)
          have g1 := blk_cell HT.out.2 1 (by simp)
          have g2 := blk_cell HT.out.2 2 (by simp)
          have g3 := blk_cell HT.out.2 3 (by simp)
          simp at g0 g1 g2 g3
          have f0 := blk_free HT.out.2 0
          have f1 := blk_free HT.out.2 1
          have f2 := blk_free HT.out.2 2
          have f3 := blk_free HT.out.2 3
          go_wp2_with fail
          (try simp only [Exit.inBlock, Exit.then])
          refine bodyPost_ret (v := .tuple #[.agg #[.int .i64 0, .int .i64 0, .int .i64 0, .int .i64 0], .int .i64 2]) ?_ rfl ?_
          · rw [results_cell_tmp rfl]
            go_simp
          rw [HE.out]
          exact ⟨rfl, bset (bset (bset (bset HT.out.1 (Nat.le_refl _)) (Nat.le_refl _)) (Nat.le_refl _)) (Nat.le_refl _)⟩
        | true =>
          rw [hy] at HCY
          cases hz : caps z with
          | false =>
            have HE := Lib.hid (HP.out.trans (parts_bad (fun h => by rw [hz] at h; exact absurd h.2.2 (by decide)) _ _))
            rw [hz] at HCZ
            clear hx hy hz HP
            go_wp2_with fail
            refine (HCY.out _).mono ?_
            rintro e wx ⟨rfl, hwx⟩
            obtain rfl := hwx.symm
            go_wp2_with fail
            refine (HCZ.out _).mono ?_
            rintro e wx ⟨rfl, hwx⟩
            obtain rfl := hwx.symm
            have g0 := blk_cell HT.out.2 0 (by simp)
            have g1 := blk_cell HT.out.2 1 (by simp)
            have g2 := blk_cell HT.out.2 2 (by simp)
            have g3 := blk_cell HT.out.2 3 (by simp)
            simp at g0 g1 g2 g3
            have f0 := blk_free HT.out.2 0
            have f1 := blk_free HT.out.2 1
            have f2 := blk_free HT.out.2 2
            have f3 := blk_free HT.out.2 3
            go_wp2_with fail
            (try simp only [Exit.inBlock, Exit.then])
            refine bodyPost_ret (v := .tuple #[.agg #[.int .i64 0, .int .i64 0, .int .i64 0, .int .i64 0], .int .i64 2]) ?_ rfl ?_
            · rw [results_cell_tmp rfl]
              go_simp
            rw [HE.out]
            exact ⟨rfl, bset (bset (bset (bset HT.out.1 (Nat.le_refl _)) (Nat.le_refl _)) (Nat.le_refl _)) (Nat.le_refl _)⟩
          | true =>
            rw [hz] at HCZ
            rcases HRB.out with ⟨n, eb1, eb2⟩ | ⟨eb1, eb2⟩
            · injection eb2 with e1 e2
              subst e1 e2
              rcases HRC.out with ⟨par, ec1, ec2⟩ | ⟨ec1, ec2⟩
              · injection ec2 with e1 e2
                subst e1 e2
                have HE := Lib.hid (show parseN s = fillN x y z nb nc by rw [HP.out, eb1, ec1]; rfl)
                have HC9 := Lib.hid (show x = [67] ∧ caps y = true ∧ caps z = true from ⟨hx, hy, hz⟩)
                have HPI := Lib.hid (prs_some ec1).1
                clear hx hy hz HP eb1 ec1 HRB HRC
                go_wp2_with fail
                refine (HCY.out _).mono ?_
                rintro e wx ⟨rfl, hwx⟩
                obtain rfl := hwx.symm
                go_wp2_with fail
                refine (HCZ.out _).mono ?_
                rintro e wx ⟨rfl, hwx⟩
                obtain rfl := hwx.symm
                clear k0 q
                go_upto_region 9 with fail
                refine wp_cut (PjJ w (1 + ixN y) (1 + ixN z) nc nb) ?_ ?_
                rotate_left
                · intro J K' hJ hK'
                  have HQ := Lib.hid (show Pq w gk y z W3.drew from (Pq.step ⟨HT.out, HN.out, lt_of_blk HXK.out, k1, k2⟩ (Below.drew (Below.refl _ _))))
                  refine wp_region_held_drew (S := fun V => V.cell? ⟨gk, 1, none⟩ = some (vS y) ∧ V.cell? ⟨gk, 2, none⟩ = some (vS z)) (by kernel_rfl) HQ.out.k (fun hHeld => ?_)
                  have e1 := ix_wrap y
                  have e2 := ix_wrap z
                  clear k1 k2 HT HN HXK HCY HCZ HE HC9
                  generalize W3.drew = V at *
                  refine take_to 1 (some 70) (v := ?_) rfl rfl (by kernel_rfl) (by kernel_rfl) (by kernel_rfl) (fun _ _ _ h => h) (Or.inl ⟨by rfl, ?_⟩) (by first | trivial | assumption) ?_
                  rotate_left
                  focus (intro w hSw; (try dsimp only at hSw); go_simp; (try with_reducible rfl))
                  simp only [Act.put, List.setIfInBounds_toArray, List.set_cons_zero, List.set_cons_succ]
                  refine take_to 2 (some 71) (v := ?_) rfl rfl (by kernel_rfl) (by kernel_rfl) (by kernel_rfl) (fun _ _ _ h => h) (Or.inl ⟨by rfl, ?_⟩) (by first | trivial | assumption) ?_
                  rotate_left
                  focus (intro w hSw; (try dsimp only at hSw); go_simp; (try with_reducible rfl))
                  simp only [Act.put, List.setIfInBounds_toArray, List.set_cons_zero, List.set_cons_succ]
                  refine take_to 3 (some 72) (v := ?_) rfl rfl (by kernel_rfl) (by kernel_rfl) (by kernel_rfl) (fun _ _ _ h => h) (Or.inl ⟨by rfl, ?_⟩) (by first | trivial | assumption) ?_
                  rotate_left
                  focus (intro w hSw; (try dsimp only at hSw); go_simp; (try with_reducible rfl))
                  simp only [Act.put, List.setIfInBounds_toArray, List.set_cons_zero, List.set_cons_succ]
                  refine take_to 7 (some 76) (v := ?_) rfl rfl (by kernel_rfl) (by kernel_rfl) (by kernel_rfl) (fun _ _ _ h => h) (Or.inl ⟨by rfl, ?_⟩) (by first | trivial | assumption) ?_
                  rotate_left
                  focus (intro w hSw; (try dsimp only at hSw); go_simp; (try with_reducible rfl))
                  simp only [Act.put, List.setIfInBounds_toArray, List.set_cons_zero, List.set_cons_succ]
                  refine take_to 8 (some 77) (v := ?_) rfl rfl (by kernel_rfl) (by kernel_rfl) (by kernel_rfl) (fun _ _ _ h => h) (Or.inl ⟨by rfl, ?_⟩) (by first | trivial | assumption) ?_
                  rotate_left
                  focus (intro w hSw; (try dsimp only at hSw); go_simp; (try with_reducible rfl))
                  simp only [Act.put, List.setIfInBounds_toArray, List.set_cons_zero, List.set_cons_succ]
                  refine take_to 9 (some 78) (v := ?_) rfl rfl (by kernel_rfl) (by kernel_rfl) (by kernel_rfl) (fun _ _ _ h => h) (Or.inl ⟨by rfl, ?_⟩) (by first | trivial | assumption) ?_
                  rotate_left
                  focus (intro w hSw; (try dsimp only at hSw); go_simp; (try with_reducible rfl))
                  simp only [Act.put, List.setIfInBounds_toArray, List.set_cons_zero, List.set_cons_succ]
                  refine take_to 12 (some 81) (v := ?_) rfl rfl (by kernel_rfl) (by kernel_rfl) (by kernel_rfl) (fun _ _ _ h => h) (Or.inl ⟨by rfl, ?_⟩) (by first | trivial | assumption) ?_
                  rotate_left
                  focus (intro w hSw; (try dsimp only at hSw); go_simp; (try with_reducible rfl))
                  simp only [Act.put, List.setIfInBounds_toArray, List.set_cons_zero, List.set_cons_succ]
                  refine take_to 13 (some 82) (v := ?_) rfl rfl (by kernel_rfl) (by kernel_rfl) (by kernel_rfl) (fun _ _ _ h => h) (Or.inl ⟨by rfl, ?_⟩) (by first | trivial | assumption) ?_
                  rotate_left
                  focus (intro w hSw; (try dsimp only at hSw); go_simp; (try with_reducible rfl))
                  simp only [Act.put, List.setIfInBounds_toArray, List.set_cons_zero, List.set_cons_succ]
                  refine wpAnyH_ready (rs := [0, 15]) (by kernel_rfl) (by simp) ?_
                  refine AllReadyH.cons rfl (fun K hK => ?_) (AllReadyH.cons rfl (fun K hK => ?_) AllReadyH.nil)
                  · go_simp
                    refine (names_any _ HQ.out.n).mono ?_
                    rintro e V9 ⟨g9, c9, rfl, hn, hg, hb⟩
                    replace HQ := Lib.hid (HQ.out.step hb)
                    skip
                    have HR := Lib.hid (show Rw5 g9 V9 from ⟨hn, hg⟩)
                    clear hn hg hb
                    go_simp
                    refine hK.out _ _ HQ.out.k (fun hHeld => ?_)
                    refine wpAnyH_ready (rs := [4, 15]) (by kernel_rfl) (by simp) ?_
                    refine AllReadyH.cons rfl (fun K hK => ?_) (AllReadyH.cons rfl (fun K hK => ?_) AllReadyH.nil)
                    · go_simp
                      refine (index_any _ _ _ _ HR.out.c).mono ?_
                      rintro e wx ⟨rfl, hwx⟩
                      obtain rfl := hwx.symm
                      clear HR
                      go_simp
                      refine hK.out _ _ HQ.out.k (fun hHeld => ?_)
                      refine take_to 5 (some 74) (v := ?_) rfl rfl (by kernel_rfl) (by kernel_rfl) (by kernel_rfl) (fun _ _ _ h => h) (Or.inl ⟨by rfl, ?_⟩) (by first | trivial | assumption) ?_
                      rotate_left
                      focus (intro w hSw; (try dsimp only at hSw); go_simp; (try with_reducible rfl))
                      simp only [Act.put, List.setIfInBounds_toArray, List.set_cons_zero, List.set_cons_succ]
                      refine wpAnyH_ready (rs := [6, 15]) (by kernel_rfl) (by simp) ?_
                      refine AllReadyH.cons rfl (fun K hK => ?_) (AllReadyH.cons rfl (fun K hK => ?_) AllReadyH.nil)
                      · go_simp
                        refine (names_any _ HQ.out.n).mono ?_
                        rintro e V9 ⟨g9, c9, rfl, hn, hg, hb⟩
                        replace HQ := Lib.hid (HQ.out.step hb)
                        skip
                        have HR := Lib.hid (show Rw5 g9 V9 from ⟨hn, hg⟩)
                        clear hn hg hb
                        go_simp
                        refine hK.out _ _ HQ.out.k (fun hHeld => ?_)
                        refine wpAnyH_ready (rs := [10, 15]) (by kernel_rfl) (by simp) ?_
                        refine AllReadyH.cons rfl (fun K hK => ?_) (AllReadyH.cons rfl (fun K hK => ?_) AllReadyH.nil)
                        · go_simp
                          refine (index_any _ _ _ _ HR.out.c).mono ?_
                          rintro e wx ⟨rfl, hwx⟩
                          obtain rfl := hwx.symm
                          clear HR
                          go_simp
                          refine hK.out _ _ HQ.out.k (fun hHeld => ?_)
                          refine take_to 11 (some 80) (v := ?_) rfl rfl (by kernel_rfl) (by kernel_rfl) (by kernel_rfl) (fun _ _ _ h => h) (Or.inl ⟨by rfl, ?_⟩) (by first | trivial | assumption) ?_
                          rotate_left
                          focus (intro w hSw; (try dsimp only at hSw); go_simp; (try with_reducible rfl))
                          simp only [Act.put, List.setIfInBounds_toArray, List.set_cons_zero, List.set_cons_succ]
                          refine take_to 14 (some 83) (v := ?_) rfl rfl (by kernel_rfl) (by kernel_rfl) (by kernel_rfl) (fun _ _ _ h => h) (Or.inl ⟨by rfl, ?_⟩) (by first | trivial | assumption) ?_
                          rotate_left
                          focus (intro w hSw; (try dsimp only at hSw); go_simp; (try with_reducible rfl))
                          simp only [Act.put, List.setIfInBounds_toArray, List.set_cons_zero, List.set_cons_succ]
                          refine wpAnyH_ready (rs := [15]) (by kernel_rfl) (by simp) ?_
                          refine AllReadyH.cons rfl (fun K hK => ?_) AllReadyH.nil
                          go_simp
                          have HZ := Lib.hid (Pz.made HQ.out)
                          have hb9 := below_new V9 (.cells #[.int .i64 0, .int .i64 0, .int .i64 0, .int .i64 0] 23)
                          replace HQ := Lib.hid (HQ.out.step hb9)
                          skip
                          clear hb9
                          generalize (V9).alloc (.cells #[.int .i64 0, .int .i64 0, .int .i64 0, .int .i64 0] 23) = Va at *
                          generalize (V9).heap.size = b9 at *
                          refine hK.out _ _ HQ.out.k (fun hHeld => ?_)
                          have g0 := blk_cell HZ.out.x 0 (by simp)
                          have g1 := blk_cell HZ.out.x 1 (by simp)
                          have g2 := blk_cell HZ.out.x 2 (by simp)
                          have g3 := blk_cell HZ.out.x 3 (by simp)
                          simp at g0 g1 g2 g3
                          have f0 := blk_free HZ.out.x 0
                          have f1 := blk_free HZ.out.x 1
                          have f2 := blk_free HZ.out.x 2
                          have f3 := blk_free HZ.out.x 3
                          refine wpAnyH_ready (rs := [16]) (by kernel_rfl) (by simp) ?_
                          refine AllReadyH.cons rfl (fun K hK => ?_) AllReadyH.nil
                          go_simp
                          have HF := Lib.hid (pz_fin HQ.out HZ.out (1 + ixN y) (1 + ixN z) nc nb)
                          refine hK.out _ _ HF.out.1.k (fun hHeld => ?_)
                          refine wpAnyH_done (by kernel_rfl) ?_ _
                          exact hK' _ _ (Met.intro (hJ _ _ ⟨rfl, rfl, rfl, _, rfl, HF.out.2, HF.out.1.n, HF.out.1.r⟩))
                        · go_simp
                          have HZ := Lib.hid (Pz.made HQ.out)
                          have hb9 := below_new V9 (.cells #[.int .i64 0, .int .i64 0, .int .i64 0, .int .i64 0] 23)
                          replace HQ := Lib.hid (HQ.out.step hb9)
                          replace HR := Lib.hid (HR.out.step hb9)
                          clear hb9
                          generalize (V9).alloc (.cells #[.int .i64 0, .int .i64 0, .int .i64 0, .int .i64 0] 23) = Va at *
                          generalize (V9).heap.size = b9 at *
                          refine hK.out _ _ HQ.out.k (fun hHeld => ?_)
                          refine wpAnyH_ready (rs := [10]) (by kernel_rfl) (by simp) ?_
                          refine AllReadyH.cons rfl (fun K hK => ?_) AllReadyH.nil
                          go_simp
                          refine (index_any _ _ _ _ HR.out.c).mono ?_
                          rintro e wx ⟨rfl, hwx⟩
                          obtain rfl := hwx.symm
                          clear HR
                          go_simp
                          refine hK.out _ _ HQ.out.k (fun hHeld => ?_)
                          refine take_to 11 (some 80) (v := ?_) rfl rfl (by kernel_rfl) (by kernel_rfl) (by kernel_rfl) (fun _ _ _ h => h) (Or.inl ⟨by rfl, ?_⟩) (by first | trivial | assumption) ?_
                          rotate_left
                          focus (intro w hSw; (try dsimp only at hSw); go_simp; (try with_reducible rfl))
                          simp only [Act.put, List.setIfInBounds_toArray, List.set_cons_zero, List.set_cons_succ]
                          refine take_to 14 (some 83) (v := ?_) rfl rfl (by kernel_rfl) (by kernel_rfl) (by kernel_rfl) (fun _ _ _ h => h) (Or.inl ⟨by rfl, ?_⟩) (by first | trivial | assumption) ?_
                          rotate_left
                          focus (intro w hSw; (try dsimp only at hSw); go_simp; (try with_reducible rfl))
                          simp only [Act.put, List.setIfInBounds_toArray, List.set_cons_zero, List.set_cons_succ]
                          have g0 := blk_cell HZ.out.x 0 (by simp)
                          have g1 := blk_cell HZ.out.x 1 (by simp)
                          have g2 := blk_cell HZ.out.x 2 (by simp)
                          have g3 := blk_cell HZ.out.x 3 (by simp)
                          simp at g0 g1 g2 g3
                          have f0 := blk_free HZ.out.x 0
                          have f1 := blk_free HZ.out.x 1
                          have f2 := blk_free HZ.out.x 2
                          have f3 := blk_free HZ.out.x 3
                          refine wpAnyH_ready (rs := [16]) (by kernel_rfl) (by simp) ?_
                          refine AllReadyH.cons rfl (fun K hK => ?_) AllReadyH.nil
                          go_simp
                          have HF := Lib.hid (pz_fin HQ.out HZ.out (1 + ixN y) (1 + ixN z) nc nb)
                          refine hK.out _ _ HF.out.1.k (fun hHeld => ?_)
                          refine wpAnyH_done (by kernel_rfl) ?_ _
                          exact hK' _ _ (Met.intro (hJ _ _ ⟨rfl, rfl, rfl, _, rfl, HF.out.2, HF.out.1.n, HF.out.1.r⟩))
                      · go_simp
                        have HZ := Lib.hid (Pz.made HQ.out)
                        have hb9 := below_new V9 (.cells #[.int .i64 0, .int .i64 0, .int .i64 0, .int .i64 0] 23)
                        replace HQ := Lib.hid (HQ.out.step hb9)
                        skip
                        clear hb9
                        generalize (V9).alloc (.cells #[.int .i64 0, .int .i64 0, .int .i64 0, .int .i64 0] 23) = Va at *
                        generalize (V9).heap.size = b9 at *
                        refine hK.out _ _ HQ.out.k (fun hHeld => ?_)
                        refine wpAnyH_ready (rs := [6]) (by kernel_rfl) (by simp) ?_
                        refine AllReadyH.cons rfl (fun K hK => ?_) AllReadyH.nil
                        go_simp
                        refine (names_any _ HQ.out.n).mono ?_
                        rintro e V9 ⟨g9, c9, rfl, hn, hg, hb⟩
                        replace HQ := Lib.hid (HQ.out.step hb)
                        replace HZ := Lib.hid (HZ.out.step hb)
                        have HR := Lib.hid (show Rw5 g9 V9 from ⟨hn, hg⟩)
                        clear hn hg hb
                        go_simp
                        refine hK.out _ _ HQ.out.k (fun hHeld => ?_)
                        refine wpAnyH_ready (rs := [10]) (by kernel_rfl) (by simp) ?_
                        refine AllReadyH.cons rfl (fun K hK => ?_) AllReadyH.nil
                        go_simp
                        refine (index_any _ _ _ _ HR.out.c).mono ?_
                        rintro e wx ⟨rfl, hwx⟩
                        obtain rfl := hwx.symm
                        clear HR
                        go_simp
                        refine hK.out _ _ HQ.out.k (fun hHeld => ?_)
                        refine take_to 11 (some 80) (v := ?_) rfl rfl (by kernel_rfl) (by kernel_rfl) (by kernel_rfl) (fun _ _ _ h => h) (Or.inl ⟨by rfl, ?_⟩) (by first | trivial | assumption) ?_
                        rotate_left
                        focus (intro w hSw; (try dsimp only at hSw); go_simp; (try with_reducible rfl))
                        simp only [Act.put, List.setIfInBounds_toArray, List.set_cons_zero, List.set_cons_succ]
                        refine take_to 14 (some 83) (v := ?_) rfl rfl (by kernel_rfl) (by kernel_rfl) (by kernel_rfl) (fun _ _ _ h => h) (Or.inl ⟨by rfl, ?_⟩) (by first | trivial | assumption) ?_
                        rotate_left
                        focus (intro w hSw; (try dsimp only at hSw); go_simp; (try with_reducible rfl))
                        simp only [Act.put, List.setIfInBounds_toArray, List.set_cons_zero, List.set_cons_succ]
                        have g0 := blk_cell HZ.out.x 0 (by simp)
                        have g1 := blk_cell HZ.out.x 1 (by simp)
                        have g2 := blk_cell HZ.out.x 2 (by simp)
                        have g3 := blk_cell HZ.out.x 3 (by simp)
                        simp at g0 g1 g2 g3
                        have f0 := blk_free HZ.out.x 0
                        have f1 := blk_free HZ.out.x 1
                        have f2 := blk_free HZ.out.x 2
                        have f3 := blk_free HZ.out.x 3
                        refine wpAnyH_ready (rs := [16]) (by kernel_rfl) (by simp) ?_
                        refine AllReadyH.cons rfl (fun K hK => ?_) AllReadyH.nil
                        go_simp
                        have HF := Lib.hid (pz_fin HQ.out HZ.out (1 + ixN y) (1 + ixN z) nc nb)
                        refine hK.out _ _ HF.out.1.k (fun hHeld => ?_)
                        refine wpAnyH_done (by kernel_rfl) ?_ _
                        exact hK' _ _ (Met.intro (hJ _ _ ⟨rfl, rfl, rfl, _, rfl, HF.out.2, HF.out.1.n, HF.out.1.r⟩))
                    · go_simp
                      have HZ := Lib.hid (Pz.made HQ.out)
                      have hb9 := below_new V9 (.cells #[.int .i64 0, .int .i64 0, .int .i64 0, .int .i64 0] 23)
                      replace HQ := Lib.hid (HQ.out.step hb9)
                      replace HR := Lib.hid (HR.out.step hb9)
                      clear hb9
                      generalize (V9).alloc (.cells #[.int .i64 0, .int .i64 0, .int .i64 0, .int .i64 0] 23) = Va at *
                      generalize (V9).heap.size = b9 at *
                      refine hK.out _ _ HQ.out.k (fun hHeld => ?_)
                      refine wpAnyH_ready (rs := [4]) (by kernel_rfl) (by simp) ?_
                      refine AllReadyH.cons rfl (fun K hK => ?_) AllReadyH.nil
                      go_simp
                      refine (index_any _ _ _ _ HR.out.c).mono ?_
                      rintro e wx ⟨rfl, hwx⟩
                      obtain rfl := hwx.symm
                      clear HR
                      go_simp
                      refine hK.out _ _ HQ.out.k (fun hHeld => ?_)
                      refine take_to 5 (some 74) (v := ?_) rfl rfl (by kernel_rfl) (by kernel_rfl) (by kernel_rfl) (fun _ _ _ h => h) (Or.inl ⟨by rfl, ?_⟩) (by first | trivial | assumption) ?_
                      rotate_left
                      focus (intro w hSw; (try dsimp only at hSw); go_simp; (try with_reducible rfl))
                      simp only [Act.put, List.setIfInBounds_toArray, List.set_cons_zero, List.set_cons_succ]
                      refine wpAnyH_ready (rs := [6]) (by kernel_rfl) (by simp) ?_
                      refine AllReadyH.cons rfl (fun K hK => ?_) AllReadyH.nil
                      go_simp
                      refine (names_any _ HQ.out.n).mono ?_
                      rintro e V9 ⟨g9, c9, rfl, hn, hg, hb⟩
                      replace HQ := Lib.hid (HQ.out.step hb)
                      replace HZ := Lib.hid (HZ.out.step hb)
                      have HR := Lib.hid (show Rw5 g9 V9 from ⟨hn, hg⟩)
                      clear hn hg hb
                      go_simp
                      refine hK.out _ _ HQ.out.k (fun hHeld => ?_)
                      refine wpAnyH_ready (rs := [10]) (by kernel_rfl) (by simp) ?_
                      refine AllReadyH.cons rfl (fun K hK => ?_) AllReadyH.nil
                      go_simp
                      refine (index_any _ _ _ _ HR.out.c).mono ?_
                      rintro e wx ⟨rfl, hwx⟩
                      obtain rfl := hwx.symm
                      clear HR
                      go_simp
                      refine hK.out _ _ HQ.out.k (fun hHeld => ?_)
                      refine take_to 11 (some 80) (v := ?_) rfl rfl (by kernel_rfl) (by kernel_rfl) (by kernel_rfl) (fun _ _ _ h => h) (Or.inl ⟨by rfl, ?_⟩) (by first | trivial | assumption) ?_
                      rotate_left
                      focus (intro w hSw; (try dsimp only at hSw); go_simp; (try with_reducible rfl))
                      simp only [Act.put, List.setIfInBounds_toArray, List.set_cons_zero, List.set_cons_succ]
                      refine take_to 14 (some 83) (v := ?_) rfl rfl (by kernel_rfl) (by kernel_rfl) (by kernel_rfl) (fun _ _ _ h => h) (Or.inl ⟨by rfl, ?_⟩) (by first | trivial | assumption) ?_
                      rotate_left
                      focus (intro w hSw; (try dsimp only at hSw); go_simp; (try with_reducible rfl))
                      simp only [Act.put, List.setIfInBounds_toArray, List.set_cons_zero, List.set_cons_succ]
                      have g0 := blk_cell HZ.out.x 0 (by simp)
                      have g1 := blk_cell HZ.out.x 1 (by simp)
                      have g2 := blk_cell HZ.out.x 2 (by simp)
                      have g3 := blk_cell HZ.out.x 3 (by simp)
                      simp at g0 g1 g2 g3
                      have f0 := blk_free HZ.out.x 0
                      have f1 := blk_free HZ.out.x 1
                      have f2 := blk_free HZ.out.x 2
                      have f3 := blk_free HZ.out.x 3
                      refine wpAnyH_ready (rs := [16]) (by kernel_rfl) (by simp) ?_
                      refine AllReadyH.cons rfl (fun K hK => ?_) AllReadyH.nil
                      go_simp
                      have HF := Lib.hid (pz_fin HQ.out HZ.out (1 + ixN y) (1 + ixN z) nc nb)
                      refine hK.out _ _ HF.out.1.k (fun hHeld => ?_)
                      refine wpAnyH_done (by kernel_rfl) ?_ _
                      exact hK' _ _ (Met.intro (hJ _ _ ⟨rfl, rfl, rfl, _, rfl, HF.out.2, HF.out.1.n, HF.out.1.r⟩))
                  · go_simp
                    have HZ := Lib.hid (Pz.made HQ.out)
                    have hb9 := below_new V (.cells #[.int .i64 0, .int .i64 0, .int .i64 0, .int .i64 0] 23)
                    replace HQ := Lib.hid (HQ.out.step hb9)
                    skip
                    clear hb9
                    generalize (V).alloc (.cells #[.int .i64 0, .int .i64 0, .int .i64 0, .int .i64 0] 23) = Va at *
                    generalize (V).heap.size = b9 at *
                    refine hK.out _ _ HQ.out.k (fun hHeld => ?_)
                    refine wpAnyH_ready (rs := [0]) (by kernel_rfl) (by simp) ?_
                    refine AllReadyH.cons rfl (fun K hK => ?_) AllReadyH.nil
                    go_simp
                    refine (names_any _ HQ.out.n).mono ?_
                    rintro e V9 ⟨g9, c9, rfl, hn, hg, hb⟩
                    replace HQ := Lib.hid (HQ.out.step hb)
                    replace HZ := Lib.hid (HZ.out.step hb)
                    have HR := Lib.hid (show Rw5 g9 V9 from ⟨hn, hg⟩)
                    clear hn hg hb
                    go_simp
                    refine hK.out _ _ HQ.out.k (fun hHeld => ?_)
                    refine wpAnyH_ready (rs := [4]) (by kernel_rfl) (by simp) ?_
                    refine AllReadyH.cons rfl (fun K hK => ?_) AllReadyH.nil
                    go_simp
                    refine (index_any _ _ _ _ HR.out.c).mono ?_
                    rintro e wx ⟨rfl, hwx⟩
                    obtain rfl := hwx.symm
                    clear HR
                    go_simp
                    refine hK.out _ _ HQ.out.k (fun hHeld => ?_)
                    refine take_to 5 (some 74) (v := ?_) rfl rfl (by kernel_rfl) (by kernel_rfl) (by kernel_rfl) (fun _ _ _ h => h) (Or.inl ⟨by rfl, ?_⟩) (by first | trivial | assumption) ?_
                    rotate_left
                    focus (intro w hSw; (try dsimp only at hSw); go_simp; (try with_reducible rfl))
                    simp only [Act.put, List.setIfInBounds_toArray, List.set_cons_zero, List.set_cons_succ]
                    refine wpAnyH_ready (rs := [6]) (by kernel_rfl) (by simp) ?_
                    refine AllReadyH.cons rfl (fun K hK => ?_) AllReadyH.nil
                    go_simp
                    refine (names_any _ HQ.out.n).mono ?_
                    rintro e V9 ⟨g9, c9, rfl, hn, hg, hb⟩
                    replace HQ := Lib.hid (HQ.out.step hb)
                    replace HZ := Lib.hid (HZ.out.step hb)
                    have HR := Lib.hid (show Rw5 g9 V9 from ⟨hn, hg⟩)
                    clear hn hg hb
                    go_simp
                    refine hK.out _ _ HQ.out.k (fun hHeld => ?_)
                    refine wpAnyH_ready (rs := [10]) (by kernel_rfl) (by simp) ?_
                    refine AllReadyH.cons rfl (fun K hK => ?_) AllReadyH.nil
                    go_simp
                    refine (index_any _ _ _ _ HR.out.c).mono ?_
                    rintro e wx ⟨rfl, hwx⟩
                    obtain rfl := hwx.symm
                    clear HR
                    go_simp
                    refine hK.out _ _ HQ.out.k (fun hHeld => ?_)
                    refine take_to 11 (some 80) (v := ?_) rfl rfl (by kernel_rfl) (by kernel_rfl) (by kernel_rfl) (fun _ _ _ h => h) (Or.inl ⟨by rfl, ?_⟩) (by first | trivial | assumption) ?_
                    rotate_left
                    focus (intro w hSw; (try dsimp only at hSw); go_simp; (try with_reducible rfl))
                    simp only [Act.put, List.setIfInBounds_toArray, List.set_cons_zero, List.set_cons_succ]
                    refine take_to 14 (some 83) (v := ?_) rfl rfl (by kernel_rfl) (by kernel_rfl) (by kernel_rfl) (fun _ _ _ h => h) (Or.inl ⟨by rfl, ?_⟩) (by first | trivial | assumption) ?_
                    rotate_left
                    focus (intro w hSw; (try dsimp only at hSw); go_simp; (try with_reducible rfl))
                    simp only [Act.put, List.setIfInBounds_toArray, List.set_cons_zero, List.set_cons_succ]
                    have g0 := blk_cell HZ.out.x 0 (by simp)
                    have g1 := blk_cell HZ.out.x 1 (by simp)
                    have g2 := blk_cell HZ.out.x 2 (by simp)
                    have g3 := blk_cell HZ.out.x 3 (by simp)
                    simp at g0 g1 g2 g3
                    have f0 := blk_free HZ.out.x 0
                    have f1 := blk_free HZ.out.x 1
                    have f2 := blk_free HZ.out.x 2
                    have f3 := blk_free HZ.out.x 3
                    refine wpAnyH_ready (rs := [16]) (by kernel_rfl) (by simp) ?_
                    refine AllReadyH.cons rfl (fun K hK => ?_) AllReadyH.nil
                    go_simp
                    have HF := Lib.hid (pz_fin HQ.out HZ.out (1 + ixN y) (1 + ixN z) nc nb)
                    refine hK.out _ _ HF.out.1.k (fun hHeld => ?_)
                    refine wpAnyH_done (by kernel_rfl) ?_ _
                    exact hK' _ _ (Met.intro (hJ _ _ ⟨rfl, rfl, rfl, _, rfl, HF.out.2, HF.out.1.n, HF.out.1.r⟩))
                · clear k1 k2 HT HN HXK HCY HCZ
                  rintro a' W5 ⟨hsz, hdf, s2, b5, s10, hx5, hn5, ht5⟩
                  obtain ⟨u, rfl, hu⟩ := frame94 hsz hdf
                  rw [hu] at s2 s10
                  simp only [s2, s10]
                  clear hsz hdf s2 s10 hu
                  have HT := Lib.hid ht5
                  have HNT := Lib.hid (fun W (h : Nk W) => ntext_any (1 + ixN y) (1 + ixN z) nc nb HPI.out W h)
                  have m0 := blk_cell hx5 0 (by simp)
                  have m1 := blk_cell hx5 1 (by simp)
                  have m2 := blk_cell hx5 2 (by simp)
                  have m3 := blk_cell hx5 3 (by simp)
                  simp at m0 m1 m2 m3
                  have HX5 := Lib.hid hx5
                  clear hx5 ht5
                  replace HE := Lib.hid (show parseN s = if (textN (1 + ixN y) (1 + ixN z) nc nb).2 = 0 then ((1 + ixN y, 1 + ixN z, nc, nb), 0) else ((0, 0, 0, 0), (textN (1 + ixN y) (1 + ixN z) nc nb).2) from HE.out.trans (if_pos HC9.out))
                  generalize textN (1 + ixN y) (1 + ixN z) nc nb = tx at *
                  generalize 1 + ixN y = gy at *
                  generalize 1 + ixN z = gz at *
                  obtain ⟨tt, er⟩ := tx
                  simp only at HNT HE
                  by_cases h0 : er = 0
                  · subst h0
                    replace HE := Lib.hid (HE.out.trans (if_pos rfl))
                    go_wp2_with fail
                    refine (HNT.out _ hn5).mono ?_
                    rintro e w6 ⟨rfl, b6⟩
                    replace HT := Lib.hid (HT.out.step b6)
                    have hx6 := (b6.block _ (lt_of_blk HX5.out)).trans HX5.out
                    clear m0 m1 m2 m3
                    have m0 := blk_cell hx6 0 (by simp)
                    have m1 := blk_cell hx6 1 (by simp)
                    have m2 := blk_cell hx6 2 (by simp)
                    have m3 := blk_cell hx6 3 (by simp)
                    simp at m0 m1 m2 m3
                    clear b6 hx6 HX5
                    have g0 := blk_cell HT.out.2 0 (by simp)
                    have g1 := blk_cell HT.out.2 1 (by simp)
                    have g2 := blk_cell HT.out.2 2 (by simp)
                    have g3 := blk_cell HT.out.2 3 (by simp)
                    simp at g0 g1 g2 g3
                    have f0 := blk_free HT.out.2 0
                    have f1 := blk_free HT.out.2 1
                    have f2 := blk_free HT.out.2 2
                    have f3 := blk_free HT.out.2 3
                    go_wp2_with fail
                    (try simp only [Exit.inBlock, Exit.then])
                    refine bodyPost_ret (v := .tuple #[.agg #[.int .i64 gy, .int .i64 gz, .int .i64 nc, .int .i64 nb], .int .i64 0]) ?_ rfl ?_
                    · rw [results_cell_tmp rfl]
                      go_simp
                    rw [HE.out]
                    exact ⟨rfl, bset (bset (bset (bset HT.out.1 (Nat.le_refl _)) (Nat.le_refl _)) (Nat.le_refl _)) (Nat.le_refl _)⟩
                  · replace HE := Lib.hid (HE.out.trans (if_neg h0))
                    have q9 := ibne h0
                    clear h0
                    go_wp2_with fail
                    refine (HNT.out _ hn5).mono ?_
                    rintro e w6 ⟨rfl, b6⟩
                    replace HT := Lib.hid (HT.out.step b6)
                    clear m0 m1 m2 m3 b6 HX5 hn5
                    have g0 := blk_cell HT.out.2 0 (by simp)
                    have g1 := blk_cell HT.out.2 1 (by simp)
                    have g2 := blk_cell HT.out.2 2 (by simp)
                    have g3 := blk_cell HT.out.2 3 (by simp)
                    simp at g0 g1 g2 g3
                    have f0 := blk_free HT.out.2 0
                    have f1 := blk_free HT.out.2 1
                    have f2 := blk_free HT.out.2 2
                    have f3 := blk_free HT.out.2 3
                    go_wp2_with fail
                    (try simp only [Exit.inBlock, Exit.then])
                    refine bodyPost_ret (v := .tuple #[.agg #[.int .i64 0, .int .i64 0, .int .i64 0, .int .i64 0], .int .i64 er]) ?_ rfl ?_
                    · rw [results_cell_tmp rfl]
                      go_simp
                    rw [HE.out]
                    exact ⟨rfl, bset (bset (bset (bset HT.out.1 (Nat.le_refl _)) (Nat.le_refl _)) (Nat.le_refl _)) (Nat.le_refl _)⟩
              · injection ec2 with e1 e2
                subst e1 e2
                have HE := Lib.hid (HP.out.trans (parts_none (.inr (.inr ec1))))
                clear hx hy hz HP eb1 ec1 HRB HRC
                go_wp2_with fail
                refine (HCY.out _).mono ?_
                rintro e wx ⟨rfl, hwx⟩
                obtain rfl := hwx.symm
                go_wp2_with fail
                refine (HCZ.out _).mono ?_
                rintro e wx ⟨rfl, hwx⟩
                obtain rfl := hwx.symm
                have g0 := blk_cell HT.out.2 0 (by simp)
                have g1 := blk_cell HT.out.2 1 (by simp)
                have g2 := blk_cell HT.out.2 2 (by simp)
                have g3 := blk_cell HT.out.2 3 (by simp)
                simp at g0 g1 g2 g3
                have f0 := blk_free HT.out.2 0
                have f1 := blk_free HT.out.2 1
                have f2 := blk_free HT.out.2 2
                have f3 := blk_free HT.out.2 3
                go_wp2_with fail
                (try simp only [Exit.inBlock, Exit.then])
                refine bodyPost_ret (v := .tuple #[.agg #[.int .i64 0, .int .i64 0, .int .i64 0, .int .i64 0], .int .i64 2]) ?_ rfl ?_
                · rw [results_cell_tmp rfl]
                  go_simp
                rw [HE.out]
                exact ⟨rfl, bset (bset (bset (bset HT.out.1 (Nat.le_refl _)) (Nat.le_refl _)) (Nat.le_refl _)) (Nat.le_refl _)⟩
            · injection eb2 with e1 e2
              subst e1 e2
              have HE := Lib.hid (HP.out.trans (parts_none (.inr (.inl eb1))))
              clear hx hy hz HP eb1 HRB HRC
              go_wp2_with fail
              refine (HCY.out _).mono ?_
              rintro e wx ⟨rfl, hwx⟩
              obtain rfl := hwx.symm
              go_wp2_with fail
              refine (HCZ.out _).mono ?_
              rintro e wx ⟨rfl, hwx⟩
              obtain rfl := hwx.symm
              have g0 := blk_cell HT.out.2 0 (by simp)
              have g1 := blk_cell HT.out.2 1 (by simp)
              have g2 := blk_cell HT.out.2 2 (by simp)
              have g3 := blk_cell HT.out.2 3 (by simp)
              simp at g0 g1 g2 g3
              have f0 := blk_free HT.out.2 0
              have f1 := blk_free HT.out.2 1
              have f2 := blk_free HT.out.2 2
              have f3 := blk_free HT.out.2 3
              go_wp2_with fail
              (try simp only [Exit.inBlock, Exit.then])
              refine bodyPost_ret (v := .tuple #[.agg #[.int .i64 0, .int .i64 0, .int .i64 0, .int .i64 0], .int .i64 2]) ?_ rfl ?_
              · rw [results_cell_tmp rfl]
                go_simp
              rw [HE.out]
              exact ⟨rfl, bset (bset (bset (bset HT.out.1 (Nat.le_refl _)) (Nat.le_refl _)) (Nat.le_refl _)) (Nat.le_refl _)⟩
      · have q : (x == ([67] : List UInt8)) = false := beq_eq_false_iff_ne.2 hx
        have HE := Lib.hid (HP.out.trans (parts_bad (fun h => hx h.1) _ _))
        clear hx HP
        have g0 := blk_cell HT.out.2 0 (by simp)
        have g1 := blk_cell HT.out.2 1 (by simp)
        have g2 := blk_cell HT.out.2 2 (by simp)
        have g3 := blk_cell HT.out.2 3 (by simp)
        simp at g0 g1 g2 g3
        have f0 := blk_free HT.out.2 0
        have f1 := blk_free HT.out.2 1
        have f2 := blk_free HT.out.2 2
        have f3 := blk_free HT.out.2 3
        go_wp2_with fail
        (try simp only [Exit.inBlock, Exit.then])
        refine bodyPost_ret (v := .tuple #[.agg #[.int .i64 0, .int .i64 0, .int .i64 0, .int .i64 0], .int .i64 2]) ?_ rfl ?_
        · rw [results_cell_tmp rfl]
          go_simp
        rw [HE.out]
        exact ⟨rfl, bset (bset (bset (bset HT.out.1 (Nat.le_refl _)) (Nat.le_refl _)) (Nat.le_refl _)) (Nat.le_refl _)⟩
    · have HE := Lib.hid (show parseN s = ((0, 0, 0, 0), 2) by rw [HP.out, three_none k3]; exact parts_none (.inl rfl))
      have q := ibne (show ¬ ((cut 45 [] a).length : Int) = 3 by omega)
      clear k3 HP
      generalize cut 45 [] a = ks at *
      go_enter Tryz.func7, Tryz.ntmps7
      go_wp2_with fail
      refine (HS.out _ HN.out).mono ?_
      rintro e w2 ⟨rfl, rfl⟩
      have hbw := below_new (w.alloc (.cells #[.int .i64 0, .int .i64 0, .int .i64 0, .int .i64 0] 23)) (.cells #[vS a, vS b, vS c] 9)
      have hxw := blk_new (w.alloc (.cells #[.int .i64 0, .int .i64 0, .int .i64 0, .int .i64 0] 23)) (.cells #[vS a, vS b, vS c] 9)
      replace HT := Lib.hid (HT.out.step hbw)
      replace HN := Lib.hid (HN.out.step hbw)
      generalize (w.alloc (.cells #[.int .i64 0, .int .i64 0, .int .i64 0, .int .i64 0] 23)).alloc (.cells #[vS a, vS b, vS c] 9) = W2 at *
      generalize (w.alloc (.cells #[.int .i64 0, .int .i64 0, .int .i64 0, .int .i64 0] 23)).heap.size = gw at *
      have c0 := blk_cell hxw 0 (by simp)
      simp at c0
      have HXW := Lib.hid hxw
      clear hbw hxw
      go_wp2_with fail
      refine (HS2.out _ HN.out).mono ?_
      rintro e w3 ⟨rfl, rfl⟩
      clear c0
      have hbk := below_new W2 (.cells (ks.map vS).toArray 9)
      have hxk := blk_new W2 (.cells (ks.map vS).toArray 9)
      replace HT := Lib.hid (HT.out.step hbk)
      replace HN := Lib.hid (HN.out.step hbk)
      have hxw := (hbk.block _ (lt_of_blk HXW.out)).trans HXW.out
      generalize W2.alloc (.cells (ks.map vS).toArray 9) = W3 at *
      generalize W2.heap.size = gk at *
      have c1 := blk_cell hxw 1 (by simp)
      have c2 := blk_cell hxw 2 (by simp)
      simp at c1 c2
      have HXK := Lib.hid hxk
      clear hbk hxk hxw HXW HS HS2
      go_wp2_with fail
      refine (HB.out _).mono ?_
      rintro e wx ⟨rfl, hwx⟩
      obtain rfl := hwx.symm
      go_wp2_with fail
      refine (HC.out _).mono ?_
      rintro e wx ⟨rfl, hwx⟩
      obtain rfl := hwx.symm
      clear c1 c2 HB HC
      have g0 := blk_cell HT.out.2 0 (by simp)
      have g1 := blk_cell HT.out.2 1 (by simp)
      have g2 := blk_cell HT.out.2 2 (by simp)
      have g3 := blk_cell HT.out.2 3 (by simp)
      simp at g0 g1 g2 g3
      have f0 := blk_free HT.out.2 0
      have f1 := blk_free HT.out.2 1
      have f2 := blk_free HT.out.2 2
      have f3 := blk_free HT.out.2 3
      go_wp2_with fail
      (try simp only [Exit.inBlock, Exit.then])
      refine bodyPost_ret (v := .tuple #[.agg #[.int .i64 0, .int .i64 0, .int .i64 0, .int .i64 0], .int .i64 2]) ?_ rfl ?_
      · rw [results_cell_tmp rfl]
        go_simp
      rw [HE.out]
      exact ⟨rfl, bset (bset (bset (bset HT.out.1 (Nat.le_refl _)) (Nat.le_refl _)) (Nat.le_refl _)) (Nat.le_refl _)⟩
  · have HE := Lib.hid (show parseN s = ((0, 0, 0, 0), 2) by unfold parseN; rw [three_none h3]; rfl)
    have q := ibne (show ¬ ((cut 47 [] s).length : Int) = 3 by omega)
    clear h3 hj
    generalize cut 47 [] s = ws at *
    go_enter Tryz.func7, Tryz.ntmps7
    go_wp2_with fail
    refine (HS.out _ HN.out).mono ?_
    rintro e w2 ⟨rfl, rfl⟩
    replace HT := Lib.hid (HT.out.step (below_new _ (.cells (ws.map vS).toArray 9)))
    generalize (w.alloc (.cells #[.int .i64 0, .int .i64 0, .int .i64 0, .int .i64 0] 23)).alloc (.cells (ws.map vS).toArray 9) = W2 at *
    have g0 := blk_cell HT.out.2 0 (by simp)
    have g1 := blk_cell HT.out.2 1 (by simp)
    have g2 := blk_cell HT.out.2 2 (by simp)
    have g3 := blk_cell HT.out.2 3 (by simp)
    simp at g0 g1 g2 g3
    have f0 := blk_free HT.out.2 0
    have f1 := blk_free HT.out.2 1
    have f2 := blk_free HT.out.2 2
    have f3 := blk_free HT.out.2 3
    go_wp2_with fail
    (try simp only [Exit.inBlock, Exit.then])
    refine bodyPost_ret (v := .tuple #[.agg #[.int .i64 0, .int .i64 0, .int .i64 0, .int .i64 0], .int .i64 2]) ?_ rfl ?_
    · rw [results_cell_tmp rfl]
      go_simp
    rw [HE.out]
    exact ⟨rfl, bset (bset (bset (bset HT.out.1 (Nat.le_refl _)) (Nat.le_refl _)) (Nat.le_refl _)) (Nat.le_refl _)⟩
end Go.Proofs.YtfnmggmgdmokcaaGreatDoor.Na

