/- The walk of Even. -/
import Derived.Test.YtcfdphfochfeoaaDoorTp7
import Derived.Test.YtcfdphfochfeoaaDoorTp10
namespace Go.Proofs.YtcfdphfochfeoaaDoor.Tp
open Go.RowKit Go.Proofs.YtcfdphfochfeoaaDoor.Li Go.Proofs.YtcfdphfochfeoaaDoor.De Go.Proofs.YtcfdphfochfeoaaDoor.Ara
theorem frame87 {a : Act} (h : a.tmps.size = 87) (hd : a.defers = []) : ∃ u : Nat → Value, a = { tmps := #[u 0, u 1, u 2, u 3, u 4, u 5, u 6, u 7, u 8, u 9, u 10, u 11, u 12, u 13, u 14, u 15, u 16, u 17, u 18, u 19, u 20, u 21, u 22, u 23, u 24, u 25, u 26, u 27, u 28, u 29, u 30, u 31, u 32, u 33, u 34, u 35, u 36, u 37, u 38, u 39, u 40, u 41, u 42, u 43, u 44, u 45, u 46, u 47, u 48, u 49, u 50, u 51, u 52, u 53, u 54, u 55, u 56, u 57, u 58, u 59, u 60, u 61, u 62, u 63, u 64, u 65, u 66, u 67, u 68, u 69, u 70, u 71, u 72, u 73, u 74, u 75, u 76, u 77, u 78, u 79, u 80, u 81, u 82, u 83, u 84, u 85, u 86], defers := [] } ∧ ∀ n, a.tmps.getD n undef = u n := by
  refine ⟨fun n => a.tmps.getD n undef, ?_, fun _ => rfl⟩
  have h1 := arr_lit a.tmps h
  cases a with
  | mk t d =>
    simp only at hd h1
    subst hd
    congr 1
def EvJ1 (parts : List Int) (th : Int) (A : Option Addr) (cap : Nat) (w : World) (tgt : Option (List Int × Nat)) (a : Act) (W : World) : Prop :=
  (a.tmps.size = 87 ∧ a.defers = [] ∧ a.tmps.getD 1 undef = .int .i64 th ∧ a.tmps.getD 4 undef = .pointer (some ⟨w.heap.size, 0, none⟩) ∧ a.tmps.getD 6 undef = .pointer (some ⟨w.heap.size + 2, 0, none⟩)) ∧ (a.tmps.getD 26 undef = .slice A parts.length cap ∧ a.tmps.getD 27 undef = .int .i64 (parts.length : Int)) ∧ ∃ (i f : Nat) (ps : List Int) (vp vl : Value), a.tmps.getD 7 undef = vl ∧ a.tmps.getD 28 undef = .int .i64 (i : Int) ∧ i ≤ parts.length ∧ EvW w W vp (.slice none 0 0) ∧
    Tri (w.heap.size + 1) (w.heap.size + 2) W vp vl (.slice none 0 0) ps (rngI f ps.length) [] ∧ f < ps.length ∧ ps.length ≤ 33 ∧ evB 33 (parts.drop i) ps f = tgt
def EvJ2 (parts : List Int) (th : Int) (A : Option Addr) (cap : Nat) (w : World) (i k f : Nat) (ps0 : List Int) (vl : Value) (a : Act) (W : World) : Prop :=
  (a.tmps.size = 87 ∧ a.defers = [] ∧ a.tmps.getD 1 undef = .int .i64 th ∧ a.tmps.getD 4 undef = .pointer (some ⟨w.heap.size, 0, none⟩) ∧ a.tmps.getD 6 undef = .pointer (some ⟨w.heap.size + 2, 0, none⟩)) ∧ (a.tmps.getD 26 undef = .slice A parts.length cap ∧ a.tmps.getD 27 undef = .int .i64 (parts.length : Int)) ∧ a.tmps.getD 28 undef = .int .i64 (i : Int) ∧ a.tmps.getD 9 undef = .int .i64 (k : Int) ∧ a.tmps.getD 32 undef = vl ∧ a.tmps.getD 33 undef = .int .i64 ((ps0.length - f : Nat) : Int) ∧
    ∃ (u : Nat) (ps : List Int) (vp vn : Value), a.tmps.getD 10 undef = vn ∧ a.tmps.getD 34 undef = .int .i64 (u : Int) ∧ u ≤ ps0.length - f ∧ ps = ps0 ++ grow (rngI f (f + u)) k ∧ EvW w W vp (.slice none 0 0) ∧
      Tri (w.heap.size + 1) (w.heap.size + 2) W vp vl vn ps (rngI f ps0.length) (rngI ps0.length ps.length) ∧ ps.length ≤ 33
def EvJ3 (parts : List Int) (th : Int) (A : Option Addr) (cap : Nat) (w : World) (i k f u : Nat) (ps0 : List Int) (vl : Value) (a : Act) (W : World) : Prop :=
  (a.tmps.size = 87 ∧ a.defers = [] ∧ a.tmps.getD 1 undef = .int .i64 th ∧ a.tmps.getD 4 undef = .pointer (some ⟨w.heap.size, 0, none⟩) ∧ a.tmps.getD 6 undef = .pointer (some ⟨w.heap.size + 2, 0, none⟩)) ∧ (a.tmps.getD 26 undef = .slice A parts.length cap ∧ a.tmps.getD 27 undef = .int .i64 (parts.length : Int)) ∧ a.tmps.getD 28 undef = .int .i64 (i : Int) ∧ a.tmps.getD 9 undef = .int .i64 (k : Int) ∧ a.tmps.getD 32 undef = vl ∧ a.tmps.getD 33 undef = .int .i64 ((ps0.length - f : Nat) : Int) ∧ a.tmps.getD 34 undef = .int .i64 (u : Int) ∧ a.tmps.getD 12 undef = .int .i64 ((f + u : Nat) : Int) ∧ a.tmps.getD 38 undef = .int .i64 (k : Int) ∧
    ∃ (j : Nat) (ps : List Int) (vp vn : Value), a.tmps.getD 10 undef = vn ∧ a.tmps.getD 39 undef = .int .i64 (j : Int) ∧ j ≤ k ∧ ps = ps0 ++ grow (rngI f (f + u)) k ++ List.replicate j ((f + u : Nat) : Int) ∧ EvW w W vp (.slice none 0 0) ∧
      Tri (w.heap.size + 1) (w.heap.size + 2) W vp vl vn ps (rngI f ps0.length) (rngI ps0.length ps.length) ∧ ps.length ≤ 33
def EvJ4 (th : Int) (w : World) (m f : Nat) (ps : List Int) (vp vl : Value) (a : Act) (W : World) : Prop :=
  (a.tmps.size = 87 ∧ a.defers = [] ∧ a.tmps.getD 1 undef = .int .i64 th ∧ a.tmps.getD 4 undef = .pointer (some ⟨w.heap.size, 0, none⟩) ∧ a.tmps.getD 6 undef = .pointer (some ⟨w.heap.size + 2, 0, none⟩)) ∧ a.tmps.getD 62 undef = vl ∧ a.tmps.getD 63 undef = .int .i64 ((ps.length - f : Nat) : Int) ∧
    ∃ (u : Nat) (ts : List Int) (vt : Value), a.tmps.getD 64 undef = .int .i64 (u : Int) ∧ u ≤ ps.length - f ∧ ts = grow (rngI f (f + u)) m ∧ EvW w W vp vt ∧
      Tri (w.heap.size + 1) (w.heap.size + 2) W vp vl vt ps (rngI f ps.length) ts
def EvJ5 (th : Int) (w : World) (m f u : Nat) (ps : List Int) (vp vl : Value) (a : Act) (W : World) : Prop :=
  (a.tmps.size = 87 ∧ a.defers = [] ∧ a.tmps.getD 1 undef = .int .i64 th ∧ a.tmps.getD 4 undef = .pointer (some ⟨w.heap.size, 0, none⟩) ∧ a.tmps.getD 6 undef = .pointer (some ⟨w.heap.size + 2, 0, none⟩)) ∧ a.tmps.getD 62 undef = vl ∧ a.tmps.getD 63 undef = .int .i64 ((ps.length - f : Nat) : Int) ∧ a.tmps.getD 64 undef = .int .i64 (u : Int) ∧ a.tmps.getD 14 undef = .int .i64 ((f + u : Nat) : Int) ∧ a.tmps.getD 69 undef = .int .i64 (m : Int) ∧
    ∃ (j : Nat) (ts : List Int) (vt : Value), a.tmps.getD 70 undef = .int .i64 (j : Int) ∧ j ≤ m ∧ ts = grow (rngI f (f + u)) m ++ List.replicate j ((f + u : Nat) : Int) ∧ EvW w W vp vt ∧
      Tri (w.heap.size + 1) (w.heap.size + 2) W vp vl vt ps (rngI f ps.length) ts
theorem rng_at {f n j : Nat} (h : j < n - f) : (rngI f n).getD j 0 = ((f + j : Nat) : Int) := by
  unfold rngI
  rw [List.getD_eq_getElem?_getD]
  simp [h]
theorem grow_step {f u k : Nat} : grow (rngI f (f + (u + 1))) k = grow (rngI f (f + u)) k ++ List.replicate k ((f + u : Nat) : Int) := by
  rw [← Nat.add_assoc, rngI_succ (by omega), grow_app, grow_one]
theorem rep_succ (j : Nat) (x : Int) : List.replicate (j + 1) x = List.replicate j x ++ [x] := List.replicate_succ'
theorem grow_le {f u n k : Nat} (h : f + u ≤ n) : (grow (rngI f (f + u)) k).length + (n - (f + u)) * k = (grow (rngI f n) k).length := by
  rw [grow_len, grow_len, rngI_len, rngI_len, ← Nat.add_mul]
  congr 1
  omega
theorem evB_no {p : List Int} {f u k j : Nat} {n : Int} {r : List Int} (hn : n.toNat = k) (hu : u < p.length - f) (hj : j < k) (h : 32 < (p ++ grow (rngI f (f + u)) k ++ List.replicate j ((f + u : Nat) : Int)).length) : evB 33 (n :: r) p f = none := by
  unfold evB
  rw [if_pos]
  have h1 := grow_le (f := f) (u := u) (n := p.length) (k := k) (by omega)
  have h2 : 1 * k ≤ (p.length - (f + u)) * k := Nat.mul_le_mul_right _ (by omega)
  rw [hn, List.length_append]
  simp only [List.length_append, List.length_replicate] at h
  omega
theorem evB_go {p : List Int} {f k : Nat} {n : Int} {r : List Int} (hn : n.toNat = k) (h : (p ++ grow (rngI f p.length) k).length ≤ 33) : evB 33 (n :: r) p f = evB 33 r (p ++ grow (rngI f p.length) k) p.length := by
  conv => lhs; unfold evB
  rw [hn, if_neg (by omega)]
theorem any_lt {parts : List Int} (h : anyF lt1 parts = true) : ∃ n ∈ parts, n < 1 := by
  unfold anyF at h
  rw [List.any_eq_true] at h
  obtain ⟨x, hx, h⟩ := h
  exact ⟨x, hx, of_decide_eq_true h⟩
theorem any_ge {parts : List Int} (h : anyF lt1 parts = false) : ∀ n ∈ parts, 1 ≤ n := by
  intro n hn
  unfold anyF at h
  rw [List.any_eq_false] at h
  have := h n hn
  unfold lt1 at this
  simp at this
  omega
theorem lit_row (W : World) (x : Int) {B : Nat} (hB : B ≤ W.heap.size) : (W.alloc (.cells #[.int .i64 x] 3)).ownsRow B 3 1 (.slice (some ⟨W.heap.size, 0, none⟩) 1 1) 1 [.int .i64 x] :=
  ⟨rfl, .inr ⟨W.heap.size, 1, #[.int .i64 x], rfl, hB, blk_new _ _, Nat.le_refl _, by decide, rfl, rfl⟩⟩
theorem Row.at_ {B G : Nat} {W : World} {g n c : Nat} {xs : List Int} (h : Row B G W (.slice (some ⟨g, 0, none⟩) n c) xs) {j : Nat} (hj : j < xs.length) : W.cell? ⟨g, j, none⟩ = some (.int .i64 (xs.getD j 0)) := by
  obtain ⟨g', c', e, hc⟩ := h.cell (by omega)
  injection e with e1 e2 e3
  injection e1 with e1
  injection e1 with e1 _ _
  subst e1
  exact hc j hj
theorem ev_start {w W0 : World} (hz : W0.heap.size = w.heap.size + 1) (h : Two w W0 (.slice none 0 0) (.slice none 0 0)) {W3 : World}
    (h3 : ((W0.alloc (.cells #[.int .i64 (-1)] 3)).alloc (.cells #[.slice (some ⟨w.heap.size + 1, 0, none⟩) 1 1, .slice none 0 0] 75)).alloc (.cells #[.int .i64 0] 3) = W3) :
    EvW w W3 (.slice (some ⟨w.heap.size + 1, 0, none⟩) 1 1) (.slice none 0 0) ∧ Tri (w.heap.size + 1) (w.heap.size + 2) W3 (.slice (some ⟨w.heap.size + 1, 0, none⟩) 1 1) (.slice (some ⟨w.heap.size + 1 + 1 + 1, 0, none⟩) 1 1) (.slice none 0 0) [-1] (rngI 0 1) [] := by
  have z1 : (W0.alloc (.cells #[.int .i64 (-1)] 3)).heap.size = w.heap.size + 2 := by simp [hz]
  have z2 : ((W0.alloc (.cells #[.int .i64 (-1)] 3)).alloc (.cells #[.slice (some ⟨w.heap.size + 1, 0, none⟩) 1 1, .slice none 0 0] 75)).heap.size = w.heap.size + 3 := by simp [hz]
  have r1 := lit_row W0 (-1) (B := w.heap.size + 1) (by omega)
  have b2 := blk_new (W0.alloc (.cells #[.int .i64 (-1)] 3)) (.cells #[.slice (some ⟨w.heap.size + 1, 0, none⟩) 1 1, .slice none 0 0] 75)
  rw [hz] at r1
  rw [z1] at b2
  have hb1 := below_new W0 (.cells #[.int .i64 (-1)] 3)
  have hb2 := below_new (W0.alloc (.cells #[.int .i64 (-1)] 3)) (.cells #[.slice (some ⟨w.heap.size + 1, 0, none⟩) 1 1, .slice none 0 0] 75)
  generalize W0.alloc (.cells #[.int .i64 (-1)] 3) = W1 at *
  have r1 := r1.alloc (.cells #[.slice (some ⟨w.heap.size + 1, 0, none⟩) 1 1, .slice none 0 0] 75)
  generalize W1.alloc (.cells #[.slice (some ⟨w.heap.size + 1, 0, none⟩) 1 1, .slice none 0 0] 75) = W2 at *
  have r2 := lit_row W2 0 (B := w.heap.size + 1) (by omega)
  rw [z2] at r2
  have r1 := r1.alloc (.cells #[.int .i64 0] 3)
  have b2 := blk_alloc b2 (.cells #[.int .i64 0] 3)
  have hT := ((h.step hb1).step hb2).step (below_new W2 (.cells #[.int .i64 0] 3))
  have z3 : (W2.alloc (.cells #[.int .i64 0] 3)).heap.size = w.heap.size + 4 := by simp [z2]
  subst h3
  generalize W2.alloc (.cells #[.int .i64 0] 3) = W3 at *
  refine ⟨⟨hT.1, hT.2, b2⟩, ⟨⟨r1, fun b hb => ?_⟩, ⟨r2, fun b hb => ?_⟩, ⟨World.ownsRow_nil _ _ _ _, fun b hb => by cases hb⟩, fun b hb e => ?_, (fun b hb e => by cases e), (fun b hb e => by cases e), by omega, by omega⟩⟩
  · injection hb with hb
    simp only at hb
    omega
  · injection hb with hb
    simp only at hb
    omega
  · injection hb with hb
    injection e with e
    simp only at hb e
    omega
set_option maxRecDepth 100000 in
set_option maxHeartbeats 8000000 in
theorem even_any (parts : List Int) (A : Option Addr) (cap : Nat) (th : Int) (w : World) (hm : parts.length ≤ 1000) (hs : Sl w w.heap.size A (parts.flatMap decI)) :
    Calls Tryd.prog 73 #[.slice A parts.length cap, .int .i64 th] w fun e w' => TQ (evT parts th) w e w' := by
  obtain ⟨R, hR⟩ : ∃ R, evT parts th = R := ⟨_, rfl⟩
  rw [hR]
  have HT := Lib.hid (Two.made w (.slice none 0 0) (.slice none 0 0))
  have HS := Lib.hid hs
  by_cases h1 : th < 1
  · have HN := Lib.hid (show (([], []), 1) = R by rw [← hR, evT_arg (.inl h1)])
    clear hR
    go_enter Tryd.func73, Tryd.ntmps73
    go_upto_region 1 with fail
    generalize w.alloc (.cells #[.slice none 0 0, .slice none 0 0] 75) = W0 at *
    have g0 := blk_cell HT.out.2 0 (by simp)
    have g1 := blk_cell HT.out.2 1 (by simp)
    have f0 := blk_free HT.out.2 0
    have f1 := blk_free HT.out.2 1
    go_wp2_with fail
    (try simp only [Exit.inBlock, Exit.then])
    refine bodyPost_ret (v := .tuple #[.agg #[.slice none 0 0, .slice none 0 0], .int .i64 1]) ?_ rfl ?_
    · rw [results_cell_tmp rfl]
      go_simp
    rw [← HN.out]
    exact TQ.none _ (bset (bset HT.out.1 (Nat.le_refl _)) (Nat.le_refl _))
  have hC := fun W hW => cfE_any parts A cap W hm hW
  cases hlt : anyF lt1 parts with
  | true =>
    have HN := Lib.hid (show (([], []), 1) = R by rw [← hR, evT_arg (.inr (any_lt hlt))])
    rw [hlt] at hC
    have HC := Lib.hid hC
    clear hR hlt hC
    go_enter Tryd.func73, Tryd.ntmps73
    go_upto_region 1 with fail
    have SP := Lib.hid (HS.out.push (.cells #[.slice none 0 0, .slice none 0 0] 75))
    generalize w.alloc (.cells #[.slice none 0 0, .slice none 0 0] 75) = W0 at *
    go_wp2_with fail
    refine (HC.out _ SP.out).mono ?_
    rintro e wx ⟨rfl, hwx⟩
    obtain rfl := hwx.symm
    have g0 := blk_cell HT.out.2 0 (by simp)
    have g1 := blk_cell HT.out.2 1 (by simp)
    have f0 := blk_free HT.out.2 0
    have f1 := blk_free HT.out.2 1
    go_wp2_with fail
    (try simp only [Exit.inBlock, Exit.then])
    refine bodyPost_ret (v := .tuple #[.agg #[.slice none 0 0, .slice none 0 0], .int .i64 1]) ?_ rfl ?_
    · rw [results_cell_tmp rfl]
      go_simp
    rw [← HN.out]
    exact TQ.none _ (bset (bset HT.out.1 (Nat.le_refl _)) (Nat.le_refl _))
  | false =>
    have hge := any_ge hlt
    have HR := Lib.hid (show (match evB 33 parts [-1] 0 with
        | none => (([], []), 8)
        | some (p, f) => fin p (grow (rngI f p.length) (min th 33).toNat)) = R by
      rw [← hR]
      exact (evT_prog (fun h => by
        rcases h with h | ⟨n, hn, h⟩
        · exact h1 h
        · have := hge n hn; omega)).symm)
    rw [hlt] at hC
    have HC := Lib.hid hC
    have HGE := Lib.hid hge
    clear hR hlt hC hge
    go_enter Tryd.func73, Tryd.ntmps73
    go_upto_region 1 with fail
    have SP := Lib.hid (HS.out.push (.cells #[.slice none 0 0, .slice none 0 0] 75))
    have hz0 : (w.alloc (.cells #[.slice none 0 0, .slice none 0 0] 75)).heap.size = w.heap.size + 1 := by simp
    generalize w.alloc (.cells #[.slice none 0 0, .slice none 0 0] 75) = W0 at *
    go_wp2_with fail
    refine (HC.out _ SP.out).mono ?_
    rintro e wx ⟨rfl, hwx⟩
    obtain rfl := hwx.symm
    obtain ⟨tgt, htgt⟩ : ∃ t, evB 33 parts [-1] 0 = t := ⟨_, rfl⟩
    rw [htgt] at HR
    have HTG := Lib.hid htgt
    clear htgt HC SP
    go_upto_region 5 with fail
    obtain ⟨W3, hw3⟩ : ∃ W3, ((W0.alloc (.cells #[.int .i64 (-1)] 3)).alloc (.cells #[.slice (some ⟨w.heap.size + 1, 0, none⟩) 1 1, .slice none 0 0] 75)).alloc (.cells #[.int .i64 0] 3) = W3 := ⟨_, rfl⟩
    have HST := Lib.hid (ev_start hz0 HT.out hw3)
    rw [hw3]
    clear hw3 HT hz0
    have hpl : (0 : Int) ≤ (parts.length : Int) := by omega
    go_wp2_with fail
    refine wp_loop (EvJ1 parts th A cap w tgt) (fun a' _ => parts.length - (intOf (a'.tmps.getD 28 undef)).toNat) ?_ ?_
    · exact ⟨⟨rfl, rfl, rfl, rfl, rfl⟩, ⟨rfl, rfl⟩, 0, 0, [-1], _, _, rfl, rfl, Nat.zero_le _, HST.out.1, HST.out.2, by decide, by decide, HTG.out⟩
    · rintro a' W ⟨⟨hsz, hdf, s1, s4, s6⟩, ⟨s26, s27⟩, i, f, ps, vp, vl, s7, s28, hi, hev, htr, hf, hp33, hrun⟩
      clear HST HTG
      have HEV := Lib.hid hev
      have HTR := Lib.hid htr
      obtain ⟨gl, cl, hvl, _⟩ := htr.2.1.cell (by rw [rngI_len]; omega)
      rw [rngI_len] at hvl
      subst hvl
      obtain ⟨u, rfl, hu⟩ := frame87 hsz hdf
      rw [hu] at s1 s4 s6 s7 s26 s27 s28
      simp only [s1, s4, s6, s7, s26, s27, s28]
      clear hsz hdf s1 s4 s6 s7 s26 s27 s28 hu
      by_cases hil : i < parts.length
      · obtain ⟨bp, op, hA, hbp, hcell⟩ := sl_g ((HS.out.below HEV.out.1).more HEV.out.1.size) (by omega)
        subst hA
        have h0 := hcell i hil
        have hn1 := HGE.out _ (getD_mem hil)
        have hdrop : parts.drop i = parts.getD i 0 :: parts.drop (i + 1) := by
          rw [List.drop_eq_getElem_cons hil, List.getD_eq_getElem?_getD, List.getElem?_eq_getElem hil]
          rfl
        rw [hdrop] at hrun
        have i1 : (i : Int) < (parts.length : Int) := by omega
        clear hdrop hcell hev htr
        generalize parts.getD i 0 = n at *
        obtain ⟨k, rfl⟩ : ∃ k : Nat, n = (k : Int) := ⟨n.toNat, by omega⟩
        have HRUN := Lib.hid hrun
        have hk : 1 ≤ k := by omega
        clear hrun hn1
        have hpl2 : ps.length - f ≤ 33 := by omega
        go_wp2_with fail
        refine wp_loop (EvJ2 parts th (some ⟨bp, op, none⟩) cap w i k f ps (.slice (some ⟨gl, 0, none⟩) (ps.length - f) cl)) (fun a' _ => (ps.length - f) - (intOf (a'.tmps.getD 34 undef)).toNat) ?_ ?_
        · exact ⟨⟨rfl, rfl, rfl, rfl, rfl⟩, ⟨rfl, rfl⟩, rfl, rfl, rfl, rfl, 0, ps, vp, _, rfl, rfl, Nat.zero_le _, by rw [Nat.add_zero, rngI_self]; simp [grow], HEV.out, by rw [rngI_self]; exact HTR.out, hp33⟩
        · rintro a' W2 ⟨⟨hsz, hdf, s1, s4, s6⟩, ⟨s26, s27⟩, s28, s9, s32, s33, y, ps2, vp2, vn, s10, s34, hu, hps2, hev2, htr2, h33⟩
          clear HEV HTR h0
          obtain ⟨u, rfl, hu⟩ := frame87 hsz hdf
          rw [hu] at s1 s4 s6 s9 s10 s26 s27 s28 s32 s33 s34
          simp only [s1, s4, s6, s9, s10, s26, s27, s28, s32, s33, s34]
          clear hsz hdf s1 s4 s6 s9 s10 s26 s27 s28 s32 s33 s34 hu
          have HEV2 := Lib.hid hev2
          have HTR2 := Lib.hid htr2
          have HPS := Lib.hid hps2
          by_cases hul : y < ps.length - f
          · have h0 := htr2.2.1.at_ (j := y) (by rw [rngI_len]; exact hul)
            rw [rng_at hul] at h0
            have i2 : (y : Int) < ((ps.length - f : Nat) : Int) := by omega
            clear hev2 htr2 hps2
            go_wp2_with fail
            refine wp_loop (EvJ3 parts th (some ⟨bp, op, none⟩) cap w i k f y ps (.slice (some ⟨gl, 0, none⟩) (ps.length - f) cl)) (fun a' _ => k - (intOf (a'.tmps.getD 39 undef)).toNat) ?_ ?_
            · exact ⟨⟨rfl, rfl, rfl, rfl, rfl⟩, ⟨rfl, rfl⟩, rfl, rfl, rfl, rfl, rfl, rfl, rfl, 0, ps2, vp2, vn, rfl, rfl, Nat.zero_le _, by rw [HPS.out]; simp, HEV2.out, HTR2.out, h33⟩
            · rintro a' W4 ⟨⟨hsz, hdf, s1, s4, s6⟩, ⟨s26, s27⟩, s28, s9, s32, s33, s34, s12, s38, j, ps3, vp3, vn3, s10, s39, hj, hps3, hev3, htr3, h33⟩
              clear HEV2 HTR2 HPS h0
              obtain ⟨u, rfl, hu⟩ := frame87 hsz hdf
              rw [hu] at s1 s4 s6 s9 s10 s12 s26 s27 s28 s32 s33 s34 s38 s39
              simp only [s1, s4, s6, s9, s10, s12, s26, s27, s28, s32, s33, s34, s38, s39]
              clear hsz hdf s1 s4 s6 s9 s10 s12 s26 s27 s28 s32 s33 s34 s38 s39 hu
              have HEV3 := Lib.hid hev3
              have HTR3 := Lib.hid htr3
              have hpl3 : 0 < ps3.length := by rw [hps3]; simp only [List.length_append]; omega
              obtain ⟨gp, cp, hvp, _⟩ := htr3.1.cell hpl3
              subst hvp
              by_cases hjk : j < k
              · have i3 : (j : Int) < (k : Int) := by omega
                have c6 := blk_cell hev3.2.2 0 (by simp)
                by_cases h32 : 32 < ps3.length
                · have i4 : (32 : Int) < (ps3.length : Int) := by omega
                  have hno : tgt = none := by
                    rw [← HRUN.out]
                    exact evB_no (k := k) (j := j) rfl hul hjk (by rw [← hps3]; exact h32)
                  have HN := Lib.hid (show (([], []), 8) = R by have := HR.out; rw [hno] at this; exact this)
                  have HT : Hid (Two w W4 (.slice none 0 0) (.slice none 0 0)) := Lib.hid ⟨hev3.1, hev3.2.1⟩
                  clear hno hev3 htr3 hps3
                  have g0 := blk_cell HT.out.2 0 (by simp)
                  have g1 := blk_cell HT.out.2 1 (by simp)
                  have f0 := blk_free HT.out.2 0
                  have f1 := blk_free HT.out.2 1
                  go_wp2_with fail
                  (try simp only [Exit.inBlock, Exit.then])
                  refine bodyPost_ret (v := .tuple #[.agg #[.slice none 0 0, .slice none 0 0], .int .i64 8]) ?_ rfl ?_
                  · rw [results_cell_tmp rfl]
                    go_simp
                  rw [← HN.out]
                  exact TQ.none _ (bset (bset HT.out.1 (Nat.le_refl _)) (Nat.le_refl _))
                · have i4 : ¬ (32 : Int) < (ps3.length : Int) := by omega
                  have how := htr3.own
                  have hrl := rngI_len ps.length ps3.length
                  have hsz4 : w.heap.size + 1 ≤ W4.heap.size := by have := htr3.2.2.2.2.2.2; omega
                  have hle : ps.length ≤ ps3.length := by rw [hps3]; simp only [List.length_append]; omega
                  have hjb : j ≤ ps3.length := by rw [hps3]; simp only [List.length_append, List.length_replicate]; omega
                  have HPS3 := Lib.hid hps3
                  clear hev3 htr3 hps3
                  go_wp2_with (first
                    | (at_builtin; refine wpList_append1_at (.tmp 46) (.tmp 50) 41 3 _ 1 8 rfl rfl Tryd.underlying41 infoI rfl (by decide) (w.heap.size + 1) _ _ _ _ _ _ _ _ how rfl rfl ?cgA rfl ?d1A ?d2A ?d3A ?d4A ?ckA; case' ckA => (intro vn' w1 hown1 hg1 hn1; have HP1 := Lib.hid (HTR3.out.push (x := (ps3.length : Int)) hown1.out hg1.out hn1.out); have HE1 := Lib.hid (HEV3.out.mod HP1.out.2.1 HP1.out.2.2); have d6 := blk_cell HE1.out.2.2 0 (by simp); have how2 := HP1.out.1.1.1; have hsz5 : w.heap.size + 1 ≤ w1.heap.size := Nat.le_trans hsz4 HP1.out.2.1.size))
                    | (at_builtin; refine wpList_append1_at (.tmp 53) (.tmp 55) 41 3 _ 1 8 rfl rfl Tryd.underlying41 infoI rfl (by decide) (w.heap.size + 1) _ _ _ _ _ _ _ _ how2 rfl rfl ?cgB rfl ?d1B ?d2B ?d3B ?d4B ?ckB; case' ckB => (intro vp' w2 hown2 hg2 hn2; obtain ⟨Ap, cpp, rfl, _, _, _⟩ := own_slice hown2.out; have HP2 := Lib.hid (HP1.out.1.rot.push (x := ((f + y : Nat) : Int)) hown2.out hg2.out hn2.out); have HE2 := Lib.hid (HE1.out.mod HP2.out.2.1 HP2.out.2.2); have e6 := blk_cell HE2.out.2.2 0 (by simp); have fr6 := blk_free HE2.out.2.2 0)))
                  case cgA => first | rfl | simp
                  case d1A => simp [Value.oneCell']
                  case d2A => simp only [maxLen]; omega
                  case d3A => omega
                  case cgB => first | rfl | simp
                  case d1B => simp [Value.oneCell']
                  case d2B => simp only [maxLen]; omega
                  case d3B => omega
                  go_wp2_with fail
                  go_roundw
                  case rel => exact ⟨⟨rfl, rfl, rfl, rfl, rfl⟩, ⟨rfl, rfl⟩, rfl, rfl, rfl, rfl, rfl, rfl, rfl, j + 1, ps3 ++ [((f + y : Nat) : Int)], _, _, rfl, by go_num, by omega, by rw [HPS3.out, rep_succ]; simp only [List.append_assoc], HE2.out.set0 _, by rw [List.length_append, List.length_singleton, rngI_succ hle]; exact HP2.out.1.rot.rot.set _, by rw [List.length_append, List.length_singleton]; omega⟩
                  case measure => simp [intOf]; omega
              · obtain rfl : j = k := by omega
                have i3 : ¬ (j : Int) < (j : Int) := by omega
                have HPS4 := Lib.hid (show ps3 = ps ++ grow (rngI f (f + (y + 1))) j by rw [hps3, grow_step, List.append_assoc])
                clear hev3 htr3 hps3
                go_wp2_with fail
                go_roundw
                case rel => exact ⟨⟨rfl, rfl, rfl, rfl, rfl⟩, ⟨rfl, rfl⟩, rfl, rfl, rfl, rfl, y + 1, ps3, _, vn3, rfl, by go_num, by omega, HPS4.out, HEV3.out, HTR3.out, h33⟩
                case measure => simp [intOf]; omega
          · obtain rfl : y = ps.length - f := by omega
            have i2 : ¬ ((ps.length - f : Nat) : Int) < ((ps.length - f : Nat) : Int) := by omega
            have hfl : f + (ps.length - f) = ps.length := by omega
            rw [hfl] at hps2
            have hgl : 1 * 1 ≤ (grow (rngI f ps.length) k).length := by rw [grow_len, rngI_len]; exact Nat.mul_le_mul (by omega) hk
            have hlt2 : ps.length < ps2.length := by rw [hps2, List.length_append]; omega
            have HRUN2 := Lib.hid (show evB 33 (parts.drop (i + 1)) ps2 ps.length = tgt by
              rw [← HRUN.out, evB_go (k := k) rfl (by rw [← hps2]; exact h33), ← hps2])
            clear hev2 htr2 hps2 hgl
            go_wp2_with fail
            go_roundw
            case rel => exact ⟨⟨rfl, rfl, rfl, rfl, rfl⟩, ⟨rfl, rfl⟩, i + 1, ps.length, ps2, vp2, vn, rfl, by go_num, by omega, HEV2.out, HTR2.out.next, hlt2, h33, HRUN2.out⟩
            case measure => simp [intOf]; omega
      · obtain rfl : i = parts.length := by omega
        have i1 : ¬ (parts.length : Int) < (parts.length : Int) := by omega
        rw [List.drop_length] at hrun
        have htg : tgt = some (ps, f) := hrun.symm
        obtain ⟨m, hmm⟩ : ∃ m : Nat, min th 33 = (m : Int) := ⟨(min th 33).toNat, by omega⟩
        have hm33 : m ≤ 33 := by omega
        have HFIN := Lib.hid (show fin ps (grow (rngI f ps.length) m) = R by
          have := HR.out
          rw [htg] at this
          simp only [hmm, Int.toNat_natCast] at this
          exact this)
        clear hrun htg hev htr HR
        have hpl2 : ps.length - f ≤ 33 := by omega
        go_wp2_with fail
        refine wp_loop (EvJ4 th w m f ps vp (.slice (some ⟨gl, 0, none⟩) (ps.length - f) cl)) (fun a' _ => (ps.length - f) - (intOf (a'.tmps.getD 64 undef)).toNat) ?_ ?_
        · exact ⟨⟨rfl, rfl, rfl, rfl, rfl⟩, rfl, rfl, 0, [], _, rfl, Nat.zero_le _, by rw [Nat.add_zero, rngI_self]; rfl, HEV.out, HTR.out⟩
        · rintro a' W2 ⟨⟨hsz, hdf, s1, s4, s6⟩, s62, s63, y, ts, vt, s64, hy, hts, hev2, htr2⟩
          clear HEV HTR
          obtain ⟨u, rfl, hu⟩ := frame87 hsz hdf
          rw [hu] at s1 s4 s6 s62 s63 s64
          simp only [s1, s4, s6, s62, s63, s64]
          clear hsz hdf s1 s4 s6 s62 s63 s64 hu
          have HEV2 := Lib.hid hev2
          have HTR2 := Lib.hid htr2
          have HTS := Lib.hid hts
          by_cases hyl : y < ps.length - f
          · have h0 := htr2.2.1.at_ (j := y) (by rw [rngI_len]; exact hyl)
            rw [rng_at hyl] at h0
            have i2 : (y : Int) < ((ps.length - f : Nat) : Int) := by omega
            clear hev2 htr2 hts
            go_wp2_with fail
            refine wp_loop (EvJ5 th w m f y ps vp (.slice (some ⟨gl, 0, none⟩) (ps.length - f) cl)) (fun a' _ => m - (intOf (a'.tmps.getD 70 undef)).toNat) ?_ ?_
            · exact ⟨⟨rfl, rfl, rfl, rfl, rfl⟩, rfl, rfl, rfl, rfl, rfl, 0, ts, vt, rfl, Nat.zero_le _, by rw [HTS.out]; simp, HEV2.out, HTR2.out⟩
            · rintro a' W4 ⟨⟨hsz, hdf, s1, s4, s6⟩, s62, s63, s64, s14, s69, j, ts3, vt3, s70, hj, hts3, hev3, htr3⟩
              clear HEV2 HTR2 HTS h0
              obtain ⟨u, rfl, hu⟩ := frame87 hsz hdf
              rw [hu] at s1 s4 s6 s14 s62 s63 s64 s69 s70
              simp only [s1, s4, s6, s14, s62, s63, s64, s69, s70]
              clear hsz hdf s1 s4 s6 s14 s62 s63 s64 s69 s70 hu
              have HEV3 := Lib.hid hev3
              have HTR3 := Lib.hid htr3
              by_cases hjm : j < m
              · have i3 : (j : Int) < (m : Int) := by omega
                obtain ⟨At3, ct3, hvt, _⟩ := htr3.2.2.1.slice
                subst hvt
                have c6 := blk_cell hev3.2.2 1 (by simp)
                have how := htr3.own
                have hsz4 : w.heap.size + 1 ≤ W4.heap.size := by have := htr3.2.2.2.2.2.2; omega
                have hlen : ts3.length ≤ 2000 := by
                  rw [hts3, List.length_append, grow_len, rngI_len, List.length_replicate]
                  have : (f + y - f) * m ≤ 33 * 33 := Nat.mul_le_mul (by omega) hm33
                  omega
                have HTS3 := Lib.hid hts3
                clear hev3 htr3 hts3
                go_wp2_with (at_builtin; refine wpList_append1_at (.tmp 73) (.tmp 75) 41 3 _ 1 8 rfl rfl Tryd.underlying41 infoI rfl (by decide) (w.heap.size + 1) _ _ _ _ _ _ _ _ how rfl rfl ?cgC rfl ?d1C ?d2C ?d3C ?d4C ?ckC; case' ckC => (intro vt' w1 hown1 hg1 hn1; obtain ⟨Ap, cpp, rfl, _, _, _⟩ := own_slice hown1.out; have HP1 := Lib.hid (HTR3.out.push (x := ((f + y : Nat) : Int)) hown1.out hg1.out hn1.out); have HE1 := Lib.hid (HEV3.out.mod HP1.out.2.1 HP1.out.2.2); have d6 := blk_cell HE1.out.2.2 1 (by simp); have fr6 := blk_free HE1.out.2.2 1))
                case cgC => first | rfl | simp
                case d1C => simp [Value.oneCell']
                case d2C => simp only [maxLen]; omega
                case d3C => omega
                try (case d4C => omega)
                go_wp2_with fail
                go_roundw
                case rel => exact ⟨⟨rfl, rfl, rfl, rfl, rfl⟩, rfl, rfl, rfl, rfl, rfl, j + 1, ts3 ++ [((f + y : Nat) : Int)], _, by go_num, by omega, by rw [HTS3.out, rep_succ]; simp only [List.append_assoc], HE1.out.set1 _, HP1.out.1.set _⟩
                case measure => simp [intOf]; omega
              · obtain rfl : j = m := by omega
                have i3 : ¬ (j : Int) < (j : Int) := by omega
                have HTS4 := Lib.hid (show ts3 = grow (rngI f (f + (y + 1))) j by rw [hts3, grow_step])
                clear hev3 htr3 hts3
                go_wp2_with fail
                go_roundw
                case rel => exact ⟨⟨rfl, rfl, rfl, rfl, rfl⟩, rfl, rfl, y + 1, ts3, _, by go_num, by omega, HTS4.out, HEV3.out, HTR3.out⟩
                case measure => simp [intOf]; omega
          · obtain rfl : y = ps.length - f := by omega
            have i2 : ¬ ((ps.length - f : Nat) : Int) < ((ps.length - f : Nat) : Int) := by omega
            have hfl : f + (ps.length - f) = ps.length := by omega
            rw [hfl] at hts
            rw [← hts] at HFIN
            obtain ⟨Ap, ca, rfl, sa⟩ := htr2.1.slice
            obtain ⟨At, ct, rfl, st⟩ := htr2.2.2.1.slice
            have hlen : ts.length ≤ 2000 := by
              rw [hts, grow_len, rngI_len]
              have : (ps.length - f) * m ≤ 33 * 33 := Nat.mul_le_mul hpl2 hm33
              omega
            have HCK := Lib.hid (check_any ps ts Ap At ca ct W2 (by omega) (by omega) sa st)
            have O2 := Lib.hid htr2.1.1
            have O3 := Lib.hid htr2.2.2.1.1
            have k0 := blk_cell hev2.2.2 0 (by simp)
            have k1 := blk_cell hev2.2.2 1 (by simp)
            clear hev2 htr2 hts sa st HTR2 HTS
            go_wp2_with fail
            refine HCK.out.mono ?_
            rintro e w5 ⟨rfl, b5⟩
            have HT : Hid (Two w w5 (.slice none 0 0) (.slice none 0 0)) := Lib.hid (Two.step ⟨HEV2.out.1, HEV2.out.2.1⟩ b5)
            have O2 := Lib.hid (own_below O2.out (Nat.le_refl _) b5)
            have O3 := Lib.hid (own_below O3.out (Nat.le_refl _) b5)
            have GB := Lib.hid ((b5.block _ (lt_of_blk HEV2.out.2.2)).trans HEV2.out.2.2)
            clear b5 k0 k1 HCK
            by_cases hc : chk ps ts = 0
            · have HN := Lib.hid (show ((ps, ts), 0) = R by rw [← HFIN.out]; exact (fin_ok hc).symm)
              have q3 := ibne_no hc
              clear hc
              generalize chk ps ts = ck at *
              have g0 := blk_cell HT.out.2 0 (by simp)
              have g1 := blk_cell HT.out.2 1 (by simp)
              have f0 := blk_free HT.out.2 0
              have f1 := blk_free HT.out.2 1
              have k0 := blk_cell GB.out 0 (by simp)
              have k1 := blk_cell GB.out 1 (by simp)
              go_wp2_with fail
              (try simp only [Exit.inBlock, Exit.then])
              refine bodyPost_ret (v := .tuple #[.agg #[.slice Ap ps.length ca, .slice At ts.length ct], .int .i64 0]) ?_ rfl ?_
              · rw [results_cell_tmp rfl]
                go_simp
              rw [← HN.out]
              exact ⟨Ap, ca, At, ct, rfl, own_set2 O2.out (by omega) _ _, own_set2 O3.out (by omega) _ _, bset (bset HT.out.1 (Nat.le_refl _)) (Nat.le_refl _)⟩
            · have HN := Lib.hid (show (([], []), chk ps ts) = R by rw [← HFIN.out]; exact (fin_no hc).symm)
              have q3 := ibne hc
              clear hc
              generalize chk ps ts = ck at *
              have g0 := blk_cell HT.out.2 0 (by simp)
              have g1 := blk_cell HT.out.2 1 (by simp)
              have f0 := blk_free HT.out.2 0
              have f1 := blk_free HT.out.2 1
              go_wp2_with fail
              (try simp only [Exit.inBlock, Exit.then])
              refine bodyPost_ret (v := .tuple #[.agg #[.slice none 0 0, .slice none 0 0], .int .i64 ck]) ?_ rfl ?_
              · rw [results_cell_tmp rfl]
                go_simp
              rw [← HN.out]
              exact TQ.none _ (bset (bset HT.out.1 (Nat.le_refl _)) (Nat.le_refl _))
end Go.Proofs.YtcfdphfochfeoaaDoor.Tp
