/- Merged texts: Cl5, ClI, FlS, Fl4, Fl5, Fl6. -/
import Derived.Test.YthffhhgaeolpgaaFr10
/- Package clh: New. -/
namespace Go.Proofs.Ythffhhgaeolpgaa.Cl
open Go.RowKit Go.Proofs.Ythffhhgaeolpgaa.Ara Go.Proofs.Ythffhhgaeolpgaa.Lok

theorem frame53 {a : Act} (h : a.tmps.size = 53) (hd : a.defers = []) : ∃ u : Nat → Value, a = { tmps := #[u 0, u 1, u 2, u 3, u 4, u 5, u 6, u 7, u 8, u 9, u 10, u 11, u 12, u 13, u 14, u 15, u 16, u 17, u 18, u 19, u 20, u 21, u 22, u 23, u 24, u 25, u 26, u 27, u 28, u 29, u 30, u 31, u 32, u 33, u 34, u 35, u 36, u 37, u 38, u 39, u 40, u 41, u 42, u 43, u 44, u 45, u 46, u 47, u 48, u 49, u 50, u 51, u 52], defers := [] } ∧ ∀ n, a.tmps.getD n undef = u n := by
  refine ⟨fun n => a.tmps.getD n undef, ?_, fun _ => rfl⟩
  have h1 := arr_lit a.tmps h
  cases a with
  | mk t d =>
    simp only at hd h1
    subst hd
    congr 1
theorem infoSp : (Try.prog.info? 31).map (fun i => (i.zero, i.size, i.bytes)) = some (some (.agg #[.int .i64 0, .int .i64 0, .int .i64 0, .int .i64 0]), 4, 32) := by kernel_rfl
theorem first0_succ (i : Nat) : first0 (i + 1) = first0 i ++ [⟨0, (i : Int) + 1, 0, 0⟩] := by
  unfold first0
  rw [List.range_succ, List.map_append]
  rfl
theorem first0_len (i : Nat) : (first0 i).length = i := by simp [first0]
def lkCells (ga : Nat) (tail : Int) (v : Value) : Array Value := #[.pointer (some ⟨ga, 0, none⟩), .int .i64 tail, v]
def NwJ (N ga ha gl : Nat) (tail : Int) (σ : Ar) (w2 : World) (a : Act) (W : World) : Prop :=
  a.tmps.size = 53 ∧ a.defers = [] ∧ a.tmps.getD 0 undef = .pointer (some ⟨ga, 0, none⟩) ∧ a.tmps.getD 1 undef = .int .i64 N ∧ a.tmps.getD 6 undef = .int .i64 tail ∧ a.tmps.getD 8 undef = .pointer (some ⟨gl, 0, none⟩) ∧ a.tmps.getD 30 undef = .int .i64 N ∧
    ∃ (i : Nat) (v : Value), a.tmps.getD 31 undef = .int .i64 i ∧ i ≤ N ∧ W.heap[gl]? = some (.cells (lkCells ga tail v) 83 (0, 0)) ∧ W.ownsRow (gl + 1) 31 4 v i ((first0 i).flatMap decSp) ∧ ArAt W ga ha σ ∧ Below gl w2 W ∧ gl + 1 ≤ W.heap.size
set_option maxHeartbeats 4000000 in
set_option maxRecDepth 100000 in
theorem new_lk (ga ha : Nat) (σ σ1 : Ar) (w : World) (H : ArAt w ga ha σ) (hh : ha < w.heap.size) (n : Nat) (n1 : 1 ≤ n) (n2 : n ≤ 32) (next : Int) (x1 : 1 ≤ next) (x2 : next ≤ 4096)
    (ht : σ.take ((n : Int) + 2) = ((next, 0), σ1)) (ho : σ1.ops ≤ 1000000) :
    Calls Try.prog 22 #[.pointer (some ⟨ga, 0, none⟩), .int .i64 (n : Int)] w fun e w' => ∃ gl hs, e = .returned (.tuple #[.pointer (some ⟨gl, 0, none⟩), .int .i64 0]) ∧ LkAt w' gl ga ha hs ⟨next⟩ (σ1.op 2 next true ((n : Int) + 1)) (first0 n) ∧ w.heap.size ≤ gl ∧ w.heap.size ≤ hs ∧ Mod [ga, ha] w w' := by
  have HT := take_any ga ha σ w H ((n : Int) + 2)
  rw [ht] at HT
  replace HT := Lib.hid HT
  have hga := H.lt
  have i1 : (1 : Int) ≤ (n : Int) := by omega
  have i2 : (n : Int) ≤ 32 := by omega
  have HO := Lib.hid ho
  clear H ht ho
  go_enter Try.func22, Try.ntmps22
  go_wp2_with fail
  refine HT.out.mono ?_
  rintro e w2 ⟨rfl, h2, hm2⟩
  have hz2 := hm2.size
  have hb0 := below_new w2 (.cells #[.pointer (some ⟨ga, 0, none⟩), .int .i64 next, .slice none 0 0] 83)
  have HK0 := Lib.hid (blk_new w2 (.cells #[.pointer (some ⟨ga, 0, none⟩), .int .i64 next, .slice none 0 0] 83))
  have HA0 := Lib.hid (h2.step hb0)
  have hz0 : w2.heap.size + 1 ≤ (w2.alloc (.cells #[.pointer (some ⟨ga, 0, none⟩), .int .i64 next, .slice none 0 0] 83)).heap.size := by simp
  have HB0 := Lib.hid hb0
  have HM := Lib.hid hm2
  clear hb0 h2 hm2 HT
  go_wp2_with fail
  generalize w2.alloc (.cells #[.pointer (some ⟨ga, 0, none⟩), .int .i64 next, .slice none 0 0] 83) = W0 at *
  generalize hgl : w2.heap.size = gl at *
  refine wp_loop (NwJ n ga ha gl next σ1 w2) (fun a' _ => n - (intOf (a'.tmps.getD 31 undef)).toNat) ?_ ?_
  · exact ⟨rfl, rfl, rfl, rfl, rfl, rfl, rfl, 0, .slice none 0 0, rfl, Nat.zero_le _, HK0.out, World.ownsRow_nil _ _ _ _, HA0.out, HB0.out, hz0⟩
  · clear HK0 HA0 HB0 hz0
    rintro a' W ⟨hsz, hdf, s0, s1, s6, s8, s30, i, v, s31, hi, hbk, hown, hat, hb, hz⟩
    obtain ⟨u, rfl, hu⟩ := frame53 hsz hdf
    rw [hu] at s0 s1 s6 s8 s30 s31
    simp only [s0, s1, s6, s8, s30, s31]
    clear hsz hdf s0 s1 s6 s8 s30 s31 hu
    by_cases hlt : i < n
    · obtain ⟨A, c, rfl, _⟩ := own_slice hown
      have c2 := blk_cell hbk 2 (by simp [lkCells])
      have f2 := blk_free hbk 2
      simp only [lkCells, List.getElem_toArray, List.getElem_cons_zero, List.getElem_cons_succ] at c2
      have HBk := Lib.hid hbk
      have HAt := Lib.hid hat
      have HB := Lib.hid hb
      have e1 : IntKind.i64.wrap ((i : Int) + 1) = (i : Int) + 1 := IntWalk.i64_in _ (by omega)
      clear hbk hat hb
      go_wp2_with (at_builtin; refine wpList_append1 (.tmp 38) (.tmp 42) 70 31 _ 4 32 rfl rfl Try.underlying70 infoSp rfl (by decide) (gl + 1) _ _ _ _ _ _ _ _ hown rfl rfl ?cg rfl ?d1 ?d2 ?d3 ?d4 ?ck; case' ck => intro v' w3 hown3 hb3 _; have q6 := (hb3.cell (p := ⟨gl, 2, none⟩) (Nat.lt_succ_self gl)).trans c2; have r6 := (hb3.frozen (p := ⟨gl, 2, none⟩) (Nat.lt_succ_self gl)).trans f2; obtain ⟨A3, c3, rfl, _, _, _⟩ := own_slice hown3)
      case cg => first | rfl | simp
      case d1 => simp [Value.oneCell']
      case d2 => simp only [maxLen]; omega
      case d3 => omega
      try (case d4 => exact hz)
      have hu : Upd (gl + 1) [gl] W (w3.setCell ⟨gl, 2, none⟩ (.slice A3 (i + 1) c3)) := (Upd.of_below hb3).setCell (.inl (by simp)) _
      have hbk2 := blk_set ((hb3.block gl (Nat.lt_succ_self gl)).trans HBk.out) 2 (.slice A3 (i + 1) c3)
      have hown4 : (w3.setCell ⟨gl, 2, none⟩ (.slice A3 (i + 1) c3)).ownsRow (gl + 1) 31 4 (.slice A3 (i + 1) c3) (i + 1) ((first0 (i + 1)).flatMap decSp) := by
        have := ownsRow_setCell_below hown3 (a := ⟨gl, 2, none⟩) (Nat.lt_succ_self gl) (.slice A3 (i + 1) c3)
        rw [first0_succ, List.flatMap_append]
        simpa [decSp] using this
      exact ⟨⟨rfl, rfl, rfl, rfl, rfl, rfl, rfl, i + 1, _, rfl, hlt, hbk2, hown4, HAt.out.upd hu (by omega) (by omega) (by simp; omega) (by simp; omega), HB.out.trans (hu.below (by omega) (by simp)), Nat.le_trans hz hu.size⟩, by simp [intOf]; omega⟩
    · obtain rfl : i = n := by omega
      rcases hown.2 with ⟨_, h0⟩ | ⟨g, cc, cur, rfl, hg, hgb, _, _, _, htk⟩
      · omega
      · have hK : LkAt W gl ga ha g ⟨next⟩ σ1 (first0 i) := by
          refine ⟨hat, ⟨cur, hgb, by rw [first0_len]; exact htk⟩, by rw [first0_len]; exact n2, ⟨cc, by rw [first0_len]; exact hbk⟩, by omega, by omega, by omega, by omega, by omega⟩
        have HK := Lib.hid hK
        have HB := Lib.hid hb
        have e1 : IntKind.i64.wrap ((i : Int) + 1) = (i : Int) + 1 := IntWalk.i64_in _ (by omega)
        clear hown hat hbk hb hgb htk hK
        go_wp2_with fail
        refine (store_any ga ha σ1 _ HK.out.1 HO.out next ((i : Int) + 1)).mono ?_
        rintro e w5 ⟨rfl, h5, hm5⟩
        have hK5 := Lib.hid (HK.out.arena h5 hm5)
        have hm6 : Mod [ga, ha] w w5 := (HM.out.trans (Mod.of_below (by rw [hgl]; exact HB.out))).trans hm5
        clear h5 hm5
        go_wp2_with fail
        go_ret2
        exact ⟨gl, g, rfl, hK5.out, by omega, by omega, hm6⟩
end Go.Proofs.Ythffhhgaeolpgaa.Cl

/- Package clh: what its laws ask of it. -/
namespace Go.Proofs.Ythffhhgaeolpgaa.Cl
open Go.RowKit Go.Proofs.Ythffhhgaeolpgaa.Ara Go.Proofs.Ythffhhgaeolpgaa.Lok

theorem Inv.num {P : Par} {σ : Ar} {sp : List Sp} {z : Int} {q : List Int} (h : Inv P σ sp z q) (hl : sp.length ≤ 32) (ho : σ.ops ≤ 1000000) (hn : P.tail ≤ 4096) : Num P σ sp := by
  refine ⟨⟨h.t1, hn⟩, fun k hk => ?_, ho, ?_⟩
  · have h1 := h.ar (k : Int) (by omega) (by omega)
    have h2 := h.br (k : Int)
    rw [spOf_in hk] at h1 h2
    omega
  · have := h.t1
    have := h.t2
    omega
/-- How a lock of n slots stands behind m acts. -/
structure OkP (P : Par) (σ : Ar) (sp : List Sp) (n m : Nat) : Prop where
  inv : ∃ z q, Inv P σ sp z q
  ops : σ.ops ≤ m + 1
  nx : P.tail ≤ 4096
  len : sp.length = n
  small : n ≤ 32
section
variable {P : Par} {σ : Ar} {sp : List Sp} {n m : Nat} (h : OkP P σ sp n m)
include h
theorem OkP.act (kd i : Int) : OkP P (doP P σ sp kd i).2.1 (doP P σ sp kd i).2.2 n (m + 1) := by
  obtain ⟨z, q, hi⟩ := h.inv
  obtain ⟨z', q', hi'⟩ := do_inv hi kd i
  exact ⟨⟨z', q', hi'⟩, by have := do_ops P σ sp kd i; have := h.ops; omega, h.nx, (do_len P σ sp kd i).trans h.len, h.small⟩
theorem OkP.num (hm : m ≤ 100000) : Num P σ sp := by
  obtain ⟨z, q, hi⟩ := h.inv
  exact hi.num (by have := h.len; have := h.small; omega) (by have := h.ops; omega) h.nx
theorem OkP.one : cnt (fun s => s.pc == 10) sp n ≤ 1 := by
  obtain ⟨z, q, hi⟩ := h.inv
  exact hi.one n
theorem OkP.behind (i : Int) (hp : (spOf sp i).pc = 10) (ha : (doP P σ sp 3 i).1 = false) : 0 < cnt (fun s => decide (0 < s.pc) && decide (s.pc < 10)) sp n := by
  obtain ⟨z, q, hi⟩ := h.inv
  rw [← h.len]
  exact hi.behind i hp ha
end
theorem do_asks (P : Par) (σ : Ar) (sp : List Sp) (kd i : Int) (hk : kd = 1 ∨ kd = 2) : (doP P σ sp kd i).2.1 = σ ∧ ((doP P σ sp kd i).1 = false → (doP P σ sp kd i).2.2 = sp) := by
  rcases hk with rfl | rfl
  · exact ⟨rfl, fun h => turn_no 1 h⟩
  · exact ⟨rfl, fun h => turn_no 11 h⟩
theorem do_three (P : Par) (σ : Ar) (sp : List Sp) (i : Int) : (doP P σ sp 3 i).2.2 = sp := rfl
theorem do_words (P : Par) (σ : Ar) (sp : List Sp) (kd i : Int) (hk : kd ≠ 0) : (doP P σ sp kd i).2.1.ws = σ.ws ∧ (doP P σ sp kd i).2.1.t = σ.t := by
  unfold doP
  rw [if_neg hk]
  split
  · exact ⟨rfl, rfl⟩
  split
  · exact ⟨rfl, rfl⟩
  split
  · unfold aloneP
    split
    · refine ⟨?_, op_t _ _ _ _ _⟩
      show (Ar.op _ _ _ false _).ws = _
      unfold Ar.op
      split <;> rfl
    · exact ⟨rfl, rfl⟩
  · exact ⟨rfl, rfl⟩
/-- As New leaves it. -/
def first1 (n : Nat) : Ar × List Sp := ((⟨zerosW 100, n + 2, 0, 0, 0, false⟩ : Ar).op 2 1 true ((n : Int) + 1), first0 n)
theorem OkP.first (n : Nat) (hn : n ≤ 32) : OkP ⟨1⟩ (first1 n).1 (first1 n).2 n 0 := by
  refine ⟨⟨_, _, inv_start n hn⟩, ?_, by show (1 : Int) ≤ 4096; decide, by simp [first1, first0], hn⟩
  show (Ar.op _ _ _ _ _).ops ≤ 1
  rw [op_ops]
  show 0 + _ ≤ 1
  split <;> omega
theorem ord_first (n : Nat) (hn : n ≤ 32) : OrdP ⟨1⟩ ⟨(first1 n).1, (first1 n).2, [], []⟩ := ord_start n hn
end Go.Proofs.Ythffhhgaeolpgaa.Cl

/- How locks of all five kinds stand at first, wherever their words lie. -/
namespace Go.Proofs.Ythffhhgaeolpgaa
open Go.RowKit Go.Proofs.Ythffhhgaeolpgaa.Ara Go.Proofs.Ythffhhgaeolpgaa.Lok

/-- m words from a on are there, and zero. -/
structure Zr (σ : Ar) (a m : Nat) : Prop where
  hl : σ.t ≤ σ.ws.length
  a1 : 1 ≤ a
  at_ : a + m ≤ σ.t + 1
  z : ∀ q : Int, (a : Int) ≤ q → q < (a : Int) + m → σ.get q = 0
theorem Zr.has {σ : Ar} {a m : Nat} (h : Zr σ a m) {q : Int} (h1 : (a : Int) ≤ q) (h2 : q < (a : Int) + m) : σ.has q = true := by
  have := h.a1
  have := h.at_
  simp [Ar.has]
  omega
namespace Ta
theorem inv_st {σ : Ar} {a : Nat} (h : Zr σ a 1) (most : Int) (m1 : 1 ≤ most) (m2 : most ≤ 1024) (n : Nat) : Inv ⟨a, most⟩ σ (zeroS n) := by
  have hs := zero_spot n
  have hp : ∀ i, (spOf (zeroS n) i).pc = 0 := fun i => by rw [hs]; rfl
  have ha : ∀ i, (spOf (zeroS n) i).a = 0 := fun i => by rw [hs]; rfl
  have hb : ∀ i, (spOf (zeroS n) i).b = 0 := fun i => by rw [hs]; rfl
  exact { hl := h.hl, hw := h.has (q := (a : Int)) (Int.le_refl _) (by omega), m1 := m1, m2 := m2, pcs := fun i => .inl (hp i), ar := fun i => by rw [ha]; omega, br := fun i => by rw [hb]; omega, w1 := fun i e => by rw [hp] at e; omega, w2 := fun i e => by rw [hp] at e; omega, hold := fun i e => by unfold holds at e; rw [hp] at e; omega, free := fun _ => h.z (a : Int) (Int.le_refl _) (by omega) }
theorem ok_st {σ : Ar} {a : Nat} (h : Zr σ a 1) (most : Int) (m1 : 1 ≤ most) (m2 : most ≤ 1024) (n m : Nat) (ho : σ.ops ≤ m + 1) : OkP ⟨a, most⟩ σ (zeroS n) n m := ⟨inv_st h most m1 m2 n, ho, by simp [zeroS]⟩
end Ta
namespace Tk
theorem inv_st {σ : Ar} {a : Nat} (h : Zr σ a 2) (n : Nat) : Inv ⟨a⟩ σ (Ta.zeroS n) 0 0 := by
  have hs := zero_spot n
  have hq : ∀ i, ¬ inq (spOf (List.replicate n sp0) i) := by
    intro i; rw [hs]; unfold inq sp0; simp
  have hz := h.z
  have h1 := h.a1
  have h2 := h.at_
  refine { p1 := Int.le_refl _, p2 := by show (1 : Int) ≤ 32; decide, n1 := by show (1 : Int) ≤ (a : Int); omega, le := Nat.le_refl _, hl := h.hl, n2 := by show (a : Int) + 1 ≤ (σ.t : Int); omega, gT := hz (a : Int) (Int.le_refl _) (by omega), srv := ?_, low := fun x x0 x1 => ?_, pcs := fun i => ?_, tick := fun i hi => absurd hi (hq i), hold := fun i hi => absurd (Or.inr hi) (hq i), inj := fun i j hi => absurd hi (hq i), all := fun t t0 t1 => ?_, rng := fun i => ?_ }
  · rw [place_eq]; exact hz ((a : Int) + 1) (by omega) (by omega)
  · have x1' : x < 1 := x1
    have : σ.get ((a : Int) + 1 + x) = 0 := hz _ (by omega) (by omega)
    show σ.get ((a : Int) + 1 + x) ≤ _
    rw [this]
    exact Int.le_refl _
  · left; show (spOf (List.replicate n sp0) i).pc = 0; rw [hs]; rfl
  · omega
  · have e : spOf (Ta.zeroS n) i = sp0 := hs i
    rw [e]; exact ⟨Int.le_refl _, Int.le_refl _⟩
theorem ok_st {σ : Ar} {a : Nat} (h : Zr σ a 2) (n m : Nat) (ho : σ.ops ≤ m + 1) (ha : a ≤ 4096) : OkP ⟨a⟩ σ (Ta.zeroS n) n m := ⟨⟨0, 0, inv_st h n, Nat.zero_le _⟩, ho, by show (a : Int) ≤ 4096; omega, by simp [Ta.zeroS]⟩
end Tk
namespace Pt
theorem inv_st {σ : Ar} {a p : Nat} (h : Zr σ a (1 + p)) (p1 : 1 ≤ p) (p2 : p ≤ 32) (n : Nat) : Inv ⟨a, p⟩ (σ.op 2 (place ⟨a, p⟩ 0) true 1) (zeroS n) 0 0 := by
  have h1 := h.a1
  have h2 := h.at_
  obtain ⟨x, x0, x1, e⟩ := place_in (P := ⟨a, p⟩) (by show (1 : Int) ≤ (p : Int); omega) 0
  simp only at x1 e
  have hh : σ.has (place ⟨a, p⟩ 0) = true := by rw [e]; exact h.has (by omega) (by omega)
  have hg := fun q => get_op σ h.hl 2 (place ⟨a, p⟩ 0) 1 true q
  simp only [hh, true_and] at hg
  have hs := zero_spot n
  have hq : ∀ i, ¬ inq (spOf (List.replicate n sp0) i) := by
    intro i; rw [hs]; unfold inq sp0; simp
  refine { p1 := by show (1 : Int) ≤ (p : Int); omega, p2 := by show (p : Int) ≤ 32; omega, n1 := by show (1 : Int) ≤ (a : Int); omega, le := Nat.le_refl _, hl := ?_, n2 := ?_, gT := ?_, srv := ?_, low := ?_, pcs := fun i => ?_, tick := fun i hi => absurd hi (hq i), hold := fun i hi => absurd (Or.inr hi) (hq i), inj := fun i j hi => absurd hi (hq i), all := fun t t0 t1 => ?_, rng := fun i => ?_ }
  · rw [op_t, op_len]; exact h.hl
  · rw [op_t]; show (a : Int) + (p : Int) ≤ (σ.t : Int); omega
  · rw [hg, if_neg (by rw [e]; show ¬ (a : Int) = (a : Int) + 1 + x; omega)]
    exact h.z (a : Int) (Int.le_refl _) (by omega)
  · rw [hg, if_pos (show place ⟨a, p⟩ ((0 : Nat) : Int) = place ⟨a, p⟩ 0 from rfl)]; rfl
  · intro y y0 y1
    have y1' : y < (p : Int) := y1
    rw [hg]
    split
    · simp
    · show σ.get ((a : Int) + 1 + y) ≤ _
      rw [h.z _ (by omega) (by omega)]
      decide
  · left; show (spOf (List.replicate n sp0) i).pc = 0; rw [hs]; rfl
  · omega
  · have e : spOf (zeroS n) i = sp0 := hs i
    rw [e]; exact ⟨Int.le_refl _, Int.le_refl _⟩
theorem ok_st {σ : Ar} {a p : Nat} (h : Zr σ a (1 + p)) (p1 : 1 ≤ p) (p2 : p ≤ 32) (n m : Nat) (ho : σ.ops ≤ m) (ha : a ≤ 4096) : OkP ⟨a, p⟩ (σ.op 2 (place ⟨a, p⟩ 0) true 1) (zeroS n) n m := by
  refine ⟨⟨0, 0, inv_st h p1 p2 n, Nat.zero_le _⟩, ?_, by show (a : Int) ≤ 4096; omega, by simp [zeroS]⟩
  rw [op_ops]
  split <;> omega
end Pt
namespace Mc
theorem inv_st {σ : Ar} {a n : Nat} (h : Zr σ a (1 + 2 * n)) : Inv ⟨a⟩ σ (zeroS n) [] := by
  have h1 := h.a1
  have h2 := h.at_
  have hp : ∀ i, (spOf (List.replicate n sp0) i).pc = 0 := fun i => by rw [zero_spot]; rfl
  have hq : ∀ i, ¬ inq (spOf (List.replicate n sp0) i) := by
    intro i h; have := hp i; unfold inq outs at h; omega
  refine { hl := h.hl, t1 := by show (1 : Int) ≤ (a : Int); omega, t2 := ?_, pcs := fun i => .inl (hp i), ar := fun i => ?_, mem := fun i => ⟨fun h => by simp at h, fun h => absurd h (hq i)⟩, nd := List.nodup_nil, first := fun i h => absurd (.inr (.inr h)) (hq i), gT := h.z (a : Int) (Int.le_refl _) (by omega), ch := trivial, hd := fun i h => by simp at h, p2 := fun i h => ?_, p3 := fun i h => ?_, p13 := fun i h => ?_, pa := fun i h => ?_, p14 := fun i h => ?_ }
  · show (a : Int) + 2 * ((List.replicate n sp0).length : Int) ≤ _; rw [List.length_replicate]; omega
  · have e : spOf (zeroS n) i = sp0 := zero_spot n i
    rw [e]; exact ⟨Int.le_refl _, by show (0 : Int) ≤ _; omega⟩
  all_goals (have h5 : (spOf (zeroS n) i).pc = 0 := hp i; exfalso; omega)
theorem ok_st {σ : Ar} {a n : Nat} (h : Zr σ a (1 + 2 * n)) (hn : n ≤ 32) (m : Nat) (ho : σ.ops ≤ m + 1) (ha : a ≤ 4096) : OkP ⟨a⟩ σ (zeroS n) n m := ⟨⟨_, inv_st h⟩, ho, by show (a : Int) ≤ 4096; omega, by simp [zeroS], hn⟩
end Mc
namespace Cl
theorem inv_st {σ : Ar} {a n : Nat} (h : Zr σ a (n + 2)) (hn : n ≤ 32) : Inv ⟨a⟩ (σ.op 2 (a : Int) true ((n : Int) + 1)) (first0 n) ((n : Int) + 1) [] := by
  have h1 := h.a1
  have h2 := h.at_
  have hh : σ.has (a : Int) = true := h.has (Int.le_refl _) (by omega)
  have hg := fun q => get_op σ h.hl 2 (a : Int) ((n : Int) + 1) true q
  simp only [hh, true_and] at hg
  have hl : (first0 n).length = n := by simp [first0]
  have hp : ∀ i, (spOf (first0 n) i).pc = 0 := by
    intro i; rw [first0_spot]; split <;> rfl
  have ha : ∀ i : Int, 0 ≤ i → i < n → (spOf (first0 n) i).a = i + 1 := by
    intro i i0 i1; rw [first0_spot, if_pos ⟨i0, i1⟩]
  refine { hl := ?_, t1 := by show (1 : Int) ≤ (a : Int); omega, t2 := ?_, zr := ?_, ar := ?_, br := ?_, pcs := fun i => .inl (hp i), mem := ?_, nd := List.nodup_nil, first := ?_, inj := ?_, nz := ?_, ch := trivial, gz := ?_, g1 := ?_, gT := ?_ }
  · rw [op_t, op_len]; exact h.hl
  · rw [op_t, hl]; show (a : Int) + (n : Int) + 1 ≤ (σ.t : Int); omega
  · rw [hl]; omega
  · intro i i0 i1; rw [hl] at i1 ⊢; rw [ha i i0 i1]; omega
  · intro i; rw [hl, first0_spot]; split
    · simp only; omega
    · simp only [sp0]; omega
  · intro i
    refine ⟨fun h => by simp at h, fun h => ?_⟩
    have := hp i
    unfold inq inn at h
    omega
  · intro i h
    have := hp i
    unfold inn at h
    omega
  · intro i j i0 i1 j0 j1 e
    rw [hl] at i1 j1
    rw [ha i i0 i1, ha j j0 j1] at e
    omega
  · intro i i0 i1
    rw [hl] at i1
    rw [ha i i0 i1]
    omega
  · rw [hg, if_neg (by simp [box]; omega)]
    exact h.z _ (by show (a : Int) ≤ (a : Int) + ((n : Int) + 1); omega) (by show (a : Int) + ((n : Int) + 1) < _; omega)
  · intro i h
    have := hp i
    unfold inq inn at h
    omega
  · rw [hg, if_pos rfl]; rfl
theorem ok_st {σ : Ar} {a n : Nat} (h : Zr σ a (n + 2)) (hn : n ≤ 32) (m : Nat) (ho : σ.ops ≤ m) (ha : a ≤ 4096) : OkP ⟨a⟩ (σ.op 2 (a : Int) true ((n : Int) + 1)) (first0 n) n m := by
  refine ⟨⟨_, _, inv_st h hn⟩, ?_, by show (a : Int) ≤ 4096; omega, by simp [first0], hn⟩
  rw [op_ops]
  split <;> omega
end Cl
end Go.Proofs.Ythffhhgaeolpgaa

/- Package flat: a lock of any kind: what its methods do, by those of its kind. -/
namespace Go.Proofs.Ythffhhgaeolpgaa.Fl
open Go.RowKit Go.Proofs.Ythffhhgaeolpgaa.Ara Go.Proofs.Ythffhhgaeolpgaa.Lok

section
variable (gf : Nat) (kind : Int) (hk : kind ≠ 0) (T : TypeId) (v r : Value) (F : FuncId) (w : World)
include hk
set_option maxRecDepth 100000 in
theorem Ask_gen (hc : ∀ a W, (callFunc F a).run Try.prog W = .ok (.enter F a) W) (hm : ∀ W, (method 237 T v "Ask").run Try.prog W = .ok (F, r) W) (H : FlB w gf kind T v) (i : Int) (b : Bool) (R : World → Prop) (HC : Calls Try.prog F #[r, .int .i64 i] w fun e w' => e = .returned (.bool b) ∧ R w') : Calls Try.prog 60 #[.pointer (some ⟨gf, 0, none⟩), .int .i64 i] w fun e w' => e = .returned (.bool b) ∧ R w' := by
  have HM := Lib.hid (made_yes gf kind T v w H hk)
  have c1 := blk_cell H 1 (by simp)
  simp only [List.getElem_toArray, List.getElem_cons_succ, List.getElem_cons_zero] at c1
  replace HC := Lib.hid HC
  clear H
  go_enter Try.func60, Try.ntmps60
  go_wp2_with fail
  refine (HM.out).mono ?_
  rintro e wx ⟨rfl, hwx⟩
  obtain rfl := hwx.symm
  go_wp2_with fail
  refine HC.out.mono ?_
  rintro e w2 ⟨rfl, h2⟩
  replace h2 := Lib.hid h2
  go_wp2_with fail
  go_ret
  exact ⟨rfl, h2.out⟩
set_option maxRecDepth 100000 in
theorem Leave_gen (hc : ∀ a W, (callFunc F a).run Try.prog W = .ok (.enter F a) W) (hm : ∀ W, (method 237 T v "Leave").run Try.prog W = .ok (F, r) W) (H : FlB w gf kind T v) (i : Int) (b : Bool) (R : World → Prop) (HC : Calls Try.prog F #[r, .int .i64 i] w fun e w' => e = .returned (.bool b) ∧ R w') : Calls Try.prog 63 #[.pointer (some ⟨gf, 0, none⟩), .int .i64 i] w fun e w' => e = .returned (.bool b) ∧ R w' := by
  have HM := Lib.hid (made_yes gf kind T v w H hk)
  have c1 := blk_cell H 1 (by simp)
  simp only [List.getElem_toArray, List.getElem_cons_succ, List.getElem_cons_zero] at c1
  replace HC := Lib.hid HC
  clear H
  go_enter Try.func63, Try.ntmps63
  go_wp2_with fail
  refine (HM.out).mono ?_
  rintro e wx ⟨rfl, hwx⟩
  obtain rfl := hwx.symm
  go_wp2_with fail
  refine HC.out.mono ?_
  rintro e w2 ⟨rfl, h2⟩
  replace h2 := Lib.hid h2
  go_wp2_with fail
  go_ret
  exact ⟨rfl, h2.out⟩
set_option maxRecDepth 100000 in
theorem Step_gen (hc : ∀ a W, (callFunc F a).run Try.prog W = .ok (.enter F a) W) (hm : ∀ W, (method 237 T v "Step").run Try.prog W = .ok (F, r) W) (H : FlB w gf kind T v) (i : Int) (b : Bool) (R : World → Prop) (HC : Calls Try.prog F #[r, .int .i64 i] w fun e w' => e = .returned (.bool b) ∧ R w') : Calls Try.prog 62 #[.pointer (some ⟨gf, 0, none⟩), .int .i64 i] w fun e w' => e = .returned (.bool b) ∧ R w' := by
  have HM := Lib.hid (made_yes gf kind T v w H hk)
  have c1 := blk_cell H 1 (by simp)
  simp only [List.getElem_toArray, List.getElem_cons_succ, List.getElem_cons_zero] at c1
  replace HC := Lib.hid HC
  clear H
  go_enter Try.func62, Try.ntmps62
  go_wp2_with fail
  refine (HM.out).mono ?_
  rintro e wx ⟨rfl, hwx⟩
  obtain rfl := hwx.symm
  go_wp2_with fail
  refine HC.out.mono ?_
  rintro e w2 ⟨rfl, h2⟩
  replace h2 := Lib.hid h2
  go_wp2_with fail
  go_ret
  exact ⟨rfl, h2.out⟩
set_option maxRecDepth 100000 in
theorem Alone_gen (hc : ∀ a W, (callFunc F a).run Try.prog W = .ok (.enter F a) W) (hm : ∀ W, (method 237 T v "Alone").run Try.prog W = .ok (F, r) W) (H : FlB w gf kind T v) (i : Int) (b : Bool) (R : World → Prop) (HC : Calls Try.prog F #[r, .int .i64 i] w fun e w' => e = .returned (.bool b) ∧ R w') : Calls Try.prog 61 #[.pointer (some ⟨gf, 0, none⟩), .int .i64 i] w fun e w' => e = .returned (.bool b) ∧ R w' := by
  have HM := Lib.hid (made_yes gf kind T v w H hk)
  have c1 := blk_cell H 1 (by simp)
  simp only [List.getElem_toArray, List.getElem_cons_succ, List.getElem_cons_zero] at c1
  replace HC := Lib.hid HC
  clear H
  go_enter Try.func61, Try.ntmps61
  go_wp2_with fail
  refine (HM.out).mono ?_
  rintro e wx ⟨rfl, hwx⟩
  obtain rfl := hwx.symm
  go_wp2_with fail
  refine HC.out.mono ?_
  rintro e w2 ⟨rfl, h2⟩
  replace h2 := Lib.hid h2
  go_wp2_with fail
  go_ret
  exact ⟨rfl, h2.out⟩
set_option maxRecDepth 100000 in
theorem Slots_gen (hc : ∀ a W, (callFunc F a).run Try.prog W = .ok (.enter F a) W) (hm : ∀ W, (method 237 T v "Slots").run Try.prog W = .ok (F, r) W) (H : FlB w gf kind T v) (n : Nat) (HC : Calls Try.prog F #[r] w fun e w' => e = .returned (.int .i64 (n : Int)) ∧ w' = w) : Calls Try.prog 35 #[.pointer (some ⟨gf, 0, none⟩)] w fun e w' => e = .returned (.int .i64 (n : Int)) ∧ w' = w := by
  have HM := Lib.hid (made_yes gf kind T v w H hk)
  have c1 := blk_cell H 1 (by simp)
  simp only [List.getElem_toArray, List.getElem_cons_succ, List.getElem_cons_zero] at c1
  replace HC := Lib.hid HC
  clear H
  go_enter Try.func35, Try.ntmps35
  go_wp2_with fail
  refine (HM.out).mono ?_
  rintro e wx ⟨rfl, hwx⟩
  obtain rfl := hwx.symm
  go_wp2_with fail
  refine (HC.out).mono ?_
  rintro e wx ⟨rfl, hwx⟩
  obtain rfl := hwx.symm
  go_wp2_with fail
  go_ret
  exact ⟨rfl, rfl⟩

set_option maxRecDepth 100000 in
theorem Spot_gen (hc : ∀ a W, (callFunc F a).run Try.prog W = .ok (.enter F a) W) (hm : ∀ W, (method 237 T v "Spot").run Try.prog W = .ok (F, r) W) (H : FlB w gf kind T v) (i : Int) (s : Sp) (HC : ∀ W, Below w.heap.size w W → Calls Try.prog F #[r, .int .i64 i] W fun e w' => e = .returned (.agg #[.int .i64 s.pc, .int .i64 s.a, .int .i64 s.b, .int .i64 s.c]) ∧ Below W.heap.size W w') : Calls Try.prog 31 #[.pointer (some ⟨gf, 0, none⟩), .int .i64 i] w fun e w' => e = .returned (.agg #[.int .i64 s.pc, .int .i64 s.a, .int .i64 s.b, .int .i64 s.c]) ∧ Below w.heap.size w w' := by
  have hbn := below_new w (.cells #[.int .i64 0, .int .i64 0, .int .i64 0, .int .i64 0] 31)
  have hbk := blk_new w (.cells #[.int .i64 0, .int .i64 0, .int .i64 0, .int .i64 0] 31)
  have hz : w.heap.size < (w.alloc (.cells #[.int .i64 0, .int .i64 0, .int .i64 0, .int .i64 0] 31)).heap.size := by simp
  have HB := Lib.hid hbk
  clear hbk
  have H1 := H.same hbn
  have HM := Lib.hid (made_yes gf kind T v _ H1 hk)
  have c1 := blk_cell H1 1 (by simp)
  simp only [List.getElem_toArray, List.getElem_cons_succ, List.getElem_cons_zero] at c1
  replace HC := Lib.hid (HC _ hbn)
  obtain ⟨xp, xa, xb, xc⟩ := s
  simp only at HC ⊢
  clear H H1
  go_enter Try.func31, Try.ntmps31
  go_wp2_with fail
  refine (HM.out).mono ?_
  rintro e wx ⟨rfl, hwx⟩
  obtain rfl := hwx.symm
  go_wp2_with fail
  refine HC.out.mono ?_
  rintro e w2 ⟨rfl, hb2⟩
  have hbk2 := (Mod.of_below (S := []) hb2).blk HB.out (by simp)
  have d0 := blk_cell hbk2 0 (by simp)
  have d1 := blk_cell hbk2 1 (by simp)
  have d2 := blk_cell hbk2 2 (by simp)
  have d3 := blk_cell hbk2 3 (by simp)
  have f0 := blk_free hbk2 0
  have f1 := blk_free hbk2 1
  have f2 := blk_free hbk2 2
  have f3 := blk_free hbk2 3
  simp only [List.getElem_toArray, List.getElem_cons_zero, List.getElem_cons_succ] at d0 d1 d2 d3
  have hB := Lib.hid (hbn.trans (hb2.mono hbn.size))
  have k0 := blk_set hbk2 0 (.int .i64 (xp))
  have k1 := blk_set k0 1 (.int .i64 (xa))
  have k2 := blk_set k1 2 (.int .i64 (xb))
  have k3 := blk_set k2 3 (.int .i64 (xc))
  have g0 := blk_cell k0 0 (by simp)
  have g1 := blk_cell k1 1 (by simp)
  have g2 := blk_cell k2 2 (by simp)
  have g3 := blk_cell k3 3 (by simp)
  simp at g0 g1 g2 g3
  clear hbk2 hb2 k0 k1 k2 k3
  go_wp2_with fail
  exact bodyPost_ret (v := .agg #[.int .i64 (xp), .int .i64 (xa), .int .i64 (xb), .int .i64 (xc)]) (by simp [results, Try.results31, go_sem, g0, g1, g2, g3]) rfl ⟨rfl, by first | exact hB.out | exact (((((hB.out.setCell (Nat.le_refl _) _).setCell (Nat.le_refl _) _).setCell (Nat.le_refl _) _).setCell (Nat.le_refl _) _))⟩
end
theorem c2_Ask (a : Array Value) (w : World) : (callFunc 119 a).run Try.prog w = .ok (.enter 119 a) w := by kernel_rfl
theorem m2_Ask (gl : Nat) (w : World) : (method 237 92 (.pointer (some ⟨gl, 0, none⟩)) "Ask").run Try.prog w = .ok (119, .pointer (some ⟨gl, 0, none⟩)) w := by kernel_rfl
theorem c2_Leave (a : Array Value) (w : World) : (callFunc 120 a).run Try.prog w = .ok (.enter 120 a) w := by kernel_rfl
theorem m2_Leave (gl : Nat) (w : World) : (method 237 92 (.pointer (some ⟨gl, 0, none⟩)) "Leave").run Try.prog w = .ok (120, .pointer (some ⟨gl, 0, none⟩)) w := by kernel_rfl
theorem c2_Step (a : Array Value) (w : World) : (callFunc 123 a).run Try.prog w = .ok (.enter 123 a) w := by kernel_rfl
theorem m2_Step (gl : Nat) (w : World) : (method 237 92 (.pointer (some ⟨gl, 0, none⟩)) "Step").run Try.prog w = .ok (123, .pointer (some ⟨gl, 0, none⟩)) w := by kernel_rfl
theorem c2_Alone (a : Array Value) (w : World) : (callFunc 118 a).run Try.prog w = .ok (.enter 118 a) w := by kernel_rfl
theorem m2_Alone (gl : Nat) (w : World) : (method 237 92 (.pointer (some ⟨gl, 0, none⟩)) "Alone").run Try.prog w = .ok (118, .pointer (some ⟨gl, 0, none⟩)) w := by kernel_rfl
theorem c2_Slots (a : Array Value) (w : World) : (callFunc 121 a).run Try.prog w = .ok (.enter 121 a) w := by kernel_rfl
theorem m2_Slots (gl : Nat) (w : World) : (method 237 92 (.pointer (some ⟨gl, 0, none⟩)) "Slots").run Try.prog w = .ok (121, .pointer (some ⟨gl, 0, none⟩)) w := by kernel_rfl
theorem c2_Spot (a : Array Value) (w : World) : (callFunc 122 a).run Try.prog w = .ok (.enter 122 a) w := by kernel_rfl
theorem m2_Spot (gl : Nat) (w : World) : (method 237 92 (.pointer (some ⟨gl, 0, none⟩)) "Spot").run Try.prog w = .ok (122, .pointer (some ⟨gl, 0, none⟩)) w := by kernel_rfl
theorem c3_Ask (a : Array Value) (w : World) : (callFunc 36 a).run Try.prog w = .ok (.enter 36 a) w := by kernel_rfl
theorem m3_Ask (gl : Nat) (w : World) : (method 237 26 (.pointer (some ⟨gl, 0, none⟩)) "Ask").run Try.prog w = .ok (36, .pointer (some ⟨gl, 0, none⟩)) w := by kernel_rfl
theorem c3_Leave (a : Array Value) (w : World) : (callFunc 39 a).run Try.prog w = .ok (.enter 39 a) w := by kernel_rfl
theorem m3_Leave (gl : Nat) (w : World) : (method 237 26 (.pointer (some ⟨gl, 0, none⟩)) "Leave").run Try.prog w = .ok (39, .pointer (some ⟨gl, 0, none⟩)) w := by kernel_rfl
theorem c3_Step (a : Array Value) (w : World) : (callFunc 37 a).run Try.prog w = .ok (.enter 37 a) w := by kernel_rfl
theorem m3_Step (gl : Nat) (w : World) : (method 237 26 (.pointer (some ⟨gl, 0, none⟩)) "Step").run Try.prog w = .ok (37, .pointer (some ⟨gl, 0, none⟩)) w := by kernel_rfl
theorem c3_Alone (a : Array Value) (w : World) : (callFunc 38 a).run Try.prog w = .ok (.enter 38 a) w := by kernel_rfl
theorem m3_Alone (gl : Nat) (w : World) : (method 237 26 (.pointer (some ⟨gl, 0, none⟩)) "Alone").run Try.prog w = .ok (38, .pointer (some ⟨gl, 0, none⟩)) w := by kernel_rfl
theorem c3_Slots (a : Array Value) (w : World) : (callFunc 40 a).run Try.prog w = .ok (.enter 40 a) w := by kernel_rfl
theorem m3_Slots (gl : Nat) (w : World) : (method 237 26 (.pointer (some ⟨gl, 0, none⟩)) "Slots").run Try.prog w = .ok (40, .pointer (some ⟨gl, 0, none⟩)) w := by kernel_rfl
theorem c3_Spot (a : Array Value) (w : World) : (callFunc 15 a).run Try.prog w = .ok (.enter 15 a) w := by kernel_rfl
theorem m3_Spot (gl : Nat) (w : World) : (method 237 26 (.pointer (some ⟨gl, 0, none⟩)) "Spot").run Try.prog w = .ok (15, .pointer (some ⟨gl, 0, none⟩)) w := by kernel_rfl
theorem c4_Ask (a : Array Value) (w : World) : (callFunc 54 a).run Try.prog w = .ok (.enter 54 a) w := by kernel_rfl
theorem m4_Ask (gl : Nat) (w : World) : (method 237 48 (.pointer (some ⟨gl, 0, none⟩)) "Ask").run Try.prog w = .ok (54, .pointer (some ⟨gl, 0, none⟩)) w := by kernel_rfl
theorem c4_Leave (a : Array Value) (w : World) : (callFunc 57 a).run Try.prog w = .ok (.enter 57 a) w := by kernel_rfl
theorem m4_Leave (gl : Nat) (w : World) : (method 237 48 (.pointer (some ⟨gl, 0, none⟩)) "Leave").run Try.prog w = .ok (57, .pointer (some ⟨gl, 0, none⟩)) w := by kernel_rfl
theorem c4_Step (a : Array Value) (w : World) : (callFunc 55 a).run Try.prog w = .ok (.enter 55 a) w := by kernel_rfl
theorem m4_Step (gl : Nat) (w : World) : (method 237 48 (.pointer (some ⟨gl, 0, none⟩)) "Step").run Try.prog w = .ok (55, .pointer (some ⟨gl, 0, none⟩)) w := by kernel_rfl
theorem c4_Alone (a : Array Value) (w : World) : (callFunc 56 a).run Try.prog w = .ok (.enter 56 a) w := by kernel_rfl
theorem m4_Alone (gl : Nat) (w : World) : (method 237 48 (.pointer (some ⟨gl, 0, none⟩)) "Alone").run Try.prog w = .ok (56, .pointer (some ⟨gl, 0, none⟩)) w := by kernel_rfl
theorem c4_Slots (a : Array Value) (w : World) : (callFunc 58 a).run Try.prog w = .ok (.enter 58 a) w := by kernel_rfl
theorem m4_Slots (gl : Nat) (w : World) : (method 237 48 (.pointer (some ⟨gl, 0, none⟩)) "Slots").run Try.prog w = .ok (58, .pointer (some ⟨gl, 0, none⟩)) w := by kernel_rfl
theorem c4_Spot (a : Array Value) (w : World) : (callFunc 27 a).run Try.prog w = .ok (.enter 27 a) w := by kernel_rfl
theorem m4_Spot (gl : Nat) (w : World) : (method 237 48 (.pointer (some ⟨gl, 0, none⟩)) "Spot").run Try.prog w = .ok (27, .pointer (some ⟨gl, 0, none⟩)) w := by kernel_rfl
theorem c5_Ask (a : Array Value) (w : World) : (callFunc 48 a).run Try.prog w = .ok (.enter 48 a) w := by kernel_rfl
theorem m5_Ask (gl : Nat) (w : World) : (method 237 44 (.pointer (some ⟨gl, 0, none⟩)) "Ask").run Try.prog w = .ok (48, .pointer (some ⟨gl, 0, none⟩)) w := by kernel_rfl
theorem c5_Leave (a : Array Value) (w : World) : (callFunc 51 a).run Try.prog w = .ok (.enter 51 a) w := by kernel_rfl
theorem m5_Leave (gl : Nat) (w : World) : (method 237 44 (.pointer (some ⟨gl, 0, none⟩)) "Leave").run Try.prog w = .ok (51, .pointer (some ⟨gl, 0, none⟩)) w := by kernel_rfl
theorem c5_Step (a : Array Value) (w : World) : (callFunc 49 a).run Try.prog w = .ok (.enter 49 a) w := by kernel_rfl
theorem m5_Step (gl : Nat) (w : World) : (method 237 44 (.pointer (some ⟨gl, 0, none⟩)) "Step").run Try.prog w = .ok (49, .pointer (some ⟨gl, 0, none⟩)) w := by kernel_rfl
theorem c5_Alone (a : Array Value) (w : World) : (callFunc 50 a).run Try.prog w = .ok (.enter 50 a) w := by kernel_rfl
theorem m5_Alone (gl : Nat) (w : World) : (method 237 44 (.pointer (some ⟨gl, 0, none⟩)) "Alone").run Try.prog w = .ok (50, .pointer (some ⟨gl, 0, none⟩)) w := by kernel_rfl
theorem c5_Slots (a : Array Value) (w : World) : (callFunc 52 a).run Try.prog w = .ok (.enter 52 a) w := by kernel_rfl
theorem m5_Slots (gl : Nat) (w : World) : (method 237 44 (.pointer (some ⟨gl, 0, none⟩)) "Slots").run Try.prog w = .ok (52, .pointer (some ⟨gl, 0, none⟩)) w := by kernel_rfl
theorem c5_Spot (a : Array Value) (w : World) : (callFunc 23 a).run Try.prog w = .ok (.enter 23 a) w := by kernel_rfl
theorem m5_Spot (gl : Nat) (w : World) : (method 237 44 (.pointer (some ⟨gl, 0, none⟩)) "Spot").run Try.prog w = .ok (23, .pointer (some ⟨gl, 0, none⟩)) w := by kernel_rfl
theorem c1_Ask (a : Array Value) (w : World) : (callFunc 111 a).run Try.prog w = .ok (.enter 111 a) w := by kernel_rfl
theorem m1_Ask (gl : Nat) (w : World) : (method 237 91 (.agg #[.pointer (some ⟨gl, 0, none⟩)]) "Ask").run Try.prog w = .ok (111, .pointer (some ⟨gl, 0, none⟩)) w := by kernel_rfl
theorem c1_Leave (a : Array Value) (w : World) : (callFunc 112 a).run Try.prog w = .ok (.enter 112 a) w := by kernel_rfl
theorem m1_Leave (gl : Nat) (w : World) : (method 237 91 (.agg #[.pointer (some ⟨gl, 0, none⟩)]) "Leave").run Try.prog w = .ok (112, .pointer (some ⟨gl, 0, none⟩)) w := by kernel_rfl
theorem c1_Step (a : Array Value) (w : World) : (callFunc 115 a).run Try.prog w = .ok (.enter 115 a) w := by kernel_rfl
theorem m1_Step (gl : Nat) (w : World) : (method 237 91 (.agg #[.pointer (some ⟨gl, 0, none⟩)]) "Step").run Try.prog w = .ok (115, .pointer (some ⟨gl, 0, none⟩)) w := by kernel_rfl
theorem c1_Slots (a : Array Value) (w : World) : (callFunc 113 a).run Try.prog w = .ok (.enter 113 a) w := by kernel_rfl
theorem m1_Slots (gl : Nat) (w : World) : (method 237 91 (.agg #[.pointer (some ⟨gl, 0, none⟩)]) "Slots").run Try.prog w = .ok (113, .pointer (some ⟨gl, 0, none⟩)) w := by kernel_rfl
theorem c1_Spot (a : Array Value) (w : World) : (callFunc 114 a).run Try.prog w = .ok (.enter 114 a) w := by kernel_rfl
theorem m1_Spot (gl : Nat) (w : World) : (method 237 91 (.agg #[.pointer (some ⟨gl, 0, none⟩)]) "Spot").run Try.prog w = .ok (114, .pointer (some ⟨gl, 0, none⟩)) w := by kernel_rfl
theorem c1_Alone (a : Array Value) (w : World) : (callFunc 117 a).run Try.prog w = .ok (.enter 117 a) w := by kernel_rfl
theorem m1_Alone (gl : Nat) (w : World) : (method 237 91 (.agg #[.pointer (some ⟨gl, 0, none⟩)]) "Alone").run Try.prog w = .ok (117, .agg #[.pointer (some ⟨gl, 0, none⟩)]) w := by kernel_rfl
end Go.Proofs.Ythffhhgaeolpgaa.Fl

/- Package flat: a lock of any kind, as Lean has it, and in memory. -/
namespace Go.Proofs.Ythffhhgaeolpgaa.Fl
open Go.RowKit Go.Proofs.Ythffhhgaeolpgaa.Ara Go.Proofs.Ythffhhgaeolpgaa.Lok

/-- A lock's kind, and what its words are. -/
inductive PK where
  | tas (P : Ta.Par)
  | tic (P : Tk.Par)
  | par (P : Pt.Par)
  | mcs (P : Mc.Par)
  | clh (P : Cl.Par)
def PK.num : PK → Int
  | .tas _ => 1
  | .tic _ => 2
  | .par _ => 3
  | .mcs _ => 4
  | .clh _ => 5
def PK.ty : PK → TypeId
  | .tas _ => 91
  | .tic _ => 92
  | .par _ => 26
  | .mcs _ => 48
  | .clh _ => 44
def PK.val (gl : Nat) : PK → Value
  | .tas _ => .agg #[.pointer (some ⟨gl, 0, none⟩)]
  | _ => .pointer (some ⟨gl, 0, none⟩)
/-- What an act does: 0 step, 1 ask, 2 leave, 3 is it alone. -/
def doK : PK → Ar → List Sp → Int → Int → Bool × Ar × List Sp
  | .tas P => Ta.doP P
  | .tic P => Tk.doP P
  | .par P => Pt.doP P
  | .mcs P => Mc.doP P
  | .clh P => Cl.doP P
def OkK : PK → Ar → List Sp → Nat → Nat → Prop
  | .tas P => Ta.OkP P
  | .tic P => Tk.OkP P
  | .par P => Pt.OkP P
  | .mcs P => Mc.OkP P
  | .clh P => Cl.OkP P
theorem PK.num_ne (p : PK) : p.num ≠ 0 := by cases p <;> (simp only [PK.num]; decide)
theorem do_ops (p : PK) (σ : Ar) (sp : List Sp) (kd i : Int) : (doK p σ sp kd i).2.1.ops ≤ σ.ops + 1 ∧ σ.ops ≤ (doK p σ sp kd i).2.1.ops := by
  cases p with
  | tas P => exact Ta.do_ops P σ sp kd i
  | tic P => exact Tk.do_ops P σ sp kd i
  | par P => exact Pt.do_ops P σ sp kd i
  | mcs P => exact Mc.do_ops P σ sp kd i
  | clh P => exact Cl.do_ops P σ sp kd i
theorem do_len (p : PK) (σ : Ar) (sp : List Sp) (kd i : Int) : (doK p σ sp kd i).2.2.length = sp.length := by
  cases p with
  | tas P => exact Ta.do_len P σ sp kd i
  | tic P => exact Tk.do_len P σ sp kd i
  | par P => exact Pt.do_len P σ sp kd i
  | mcs P => exact Mc.do_len P σ sp kd i
  | clh P => exact Cl.do_len P σ sp kd i
theorem do_else (p : PK) (σ : Ar) (sp : List Sp) (kd i : Int) (h : kd < 0 ∨ 3 < kd) : doK p σ sp kd i = (false, σ, sp) := by
  cases p with
  | tas P => show Ta.doP P σ sp kd i = _; unfold Ta.doP; rw [if_neg (by omega), if_neg (by omega), if_neg (by omega), if_neg (by omega)]
  | tic P => show Tk.doP P σ sp kd i = _; unfold Tk.doP; rw [if_neg (by omega), if_neg (by omega), if_neg (by omega), if_neg (by omega)]
  | par P => show Pt.doP P σ sp kd i = _; unfold Pt.doP; rw [if_neg (by omega), if_neg (by omega), if_neg (by omega), if_neg (by omega)]
  | mcs P => show Mc.doP P σ sp kd i = _; unfold Mc.doP; rw [if_neg (by omega), if_neg (by omega), if_neg (by omega), if_neg (by omega)]
  | clh P => show Cl.doP P σ sp kd i = _; unfold Cl.doP; rw [if_neg (by omega), if_neg (by omega), if_neg (by omega), if_neg (by omega)]
section
variable {p : PK} {σ : Ar} {sp : List Sp} {n m : Nat} (h : OkK p σ sp n m)
include h
theorem OkK.act (kd i : Int) : OkK p (doK p σ sp kd i).2.1 (doK p σ sp kd i).2.2 n (m + 1) := by
  cases p with
  | tas P => exact Ta.OkP.act h kd i
  | tic P => exact Tk.OkP.act h kd i
  | par P => exact Pt.OkP.act h kd i
  | mcs P => exact Mc.OkP.act h kd i
  | clh P => exact Cl.OkP.act h kd i
theorem OkK.one : cnt (fun s => s.pc == 10) sp n ≤ 1 := by
  cases p with
  | tas P => exact Ta.OkP.one h
  | tic P => exact Tk.OkP.one h
  | par P => exact Pt.OkP.one h
  | mcs P => exact Mc.OkP.one h
  | clh P => exact Cl.OkP.one h
theorem OkK.len : sp.length = n := by
  cases p with
  | tas P => exact Ta.OkP.len h
  | tic P => exact Tk.OkP.len h
  | par P => exact Pt.OkP.len h
  | mcs P => exact Mc.OkP.len h
  | clh P => exact Cl.OkP.len h
theorem OkK.ops : σ.ops ≤ m + 1 := by
  cases p with
  | tas P => exact Ta.OkP.ops h
  | tic P => exact Tk.OkP.ops h
  | par P => exact Pt.OkP.ops h
  | mcs P => exact Mc.OkP.ops h
  | clh P => exact Cl.OkP.ops h
end
/-- The lock of its kind in memory. -/
def PK.At (p : PK) (W : World) (gl ga ha hs : Nat) (σ : Ar) (sp : List Sp) : Prop :=
  match p with
  | .tas P => Ta.LkAt W gl ga ha hs P σ sp
  | .tic P => Tk.LkAt W gl ga ha hs P σ sp
  | .par P => Pt.LkAt W gl ga ha hs P σ sp
  | .mcs P => Mc.LkAt W gl ga ha hs P σ sp
  | .clh P => Cl.LkAt W gl ga ha hs P σ sp
theorem PK.At.same {p : PK} {W W' : World} {gl ga ha hs : Nat} {σ : Ar} {sp : List Sp} (k : p.At W gl ga ha hs σ sp) (hb : Below W.heap.size W W') : p.At W' gl ga ha hs σ sp := by
  cases p with
  | tas P => exact Ta.LkAt.same k hb
  | tic P => exact Tk.LkAt.same k hb
  | par P => exact Pt.LkAt.same k hb
  | mcs P => exact Mc.LkAt.same k hb
  | clh P => exact Cl.LkAt.same k hb
theorem PK.At.mod {p : PK} {S : List Nat} {W W' : World} {gl ga ha hs : Nat} {σ : Ar} {sp : List Sp} (k : p.At W gl ga ha hs σ sp) (hm : Mod S W W') (h1 : gl ∉ S) (h2 : ga ∉ S) (h3 : ha ∉ S) (h4 : hs ∉ S) : p.At W' gl ga ha hs σ sp := by
  cases p with
  | tas P => exact Ta.LkAt.mod k hm h1 h2 h3 h4
  | tic P => exact Tk.LkAt.mod k hm h1 h2 h3 h4
  | par P => exact Pt.LkAt.mod k hm h1 h2 h3 h4
  | mcs P => exact Mc.LkAt.mod k hm h1 h2 h3 h4
  | clh P => exact Cl.LkAt.mod k hm h1 h2 h3 h4
theorem PK.At.facts {p : PK} {W : World} {gl ga ha hs : Nat} {σ : Ar} {sp : List Sp} (k : p.At W gl ga ha hs σ sp) : ArAt W ga ha σ ∧ SpAt W hs sp ∧ sp.length ≤ 32 ∧ gl < W.heap.size ∧ (gl ≠ ga ∧ gl ≠ ha ∧ gl ≠ hs ∧ hs ≠ ga ∧ hs ≠ ha) := by
  cases p with
  | tas P => obtain ⟨k1, k2, k3, ⟨c, k4⟩, k5⟩ := k; exact ⟨k1, k2, k3, lt_of_blk k4, k5⟩
  | tic P => obtain ⟨k1, k2, k3, ⟨c, k4⟩, k5⟩ := k; exact ⟨k1, k2, k3, lt_of_blk k4, k5⟩
  | par P => obtain ⟨k1, k2, k3, ⟨c, k4⟩, k5⟩ := k; exact ⟨k1, k2, k3, lt_of_blk k4, k5⟩
  | mcs P => obtain ⟨k1, k2, k3, ⟨c, k4⟩, k5⟩ := k; exact ⟨k1, k2, k3, lt_of_blk k4, k5⟩
  | clh P => obtain ⟨k1, k2, k3, ⟨c, k4⟩, k5⟩ := k; exact ⟨k1, k2, k3, lt_of_blk k4, k5⟩
/-- A flat lock in memory: its own struct at gf, that of its kind at gl, its spots at hs, its arena at ga, ha. -/
structure FLAt (W : World) (gf gl ga ha hs : Nat) (p : PK) (σ : Ar) (sp : List Sp) : Prop where
  fb : FlB W gf p.num p.ty (p.val gl)
  at_ : p.At W gl ga ha hs σ sp
  n1 : gf ≠ ga
  n2 : gf ≠ ha
  n3 : gf ≠ hs
theorem FLAt.same {W W' : World} {gf gl ga ha hs : Nat} {p : PK} {σ : Ar} {sp : List Sp} (k : FLAt W gf gl ga ha hs p σ sp) (hb : Below W.heap.size W W') : FLAt W' gf gl ga ha hs p σ sp := ⟨FlB.same k.fb hb, k.at_.same hb, k.n1, k.n2, k.n3⟩
theorem FLAt.mod {S : List Nat} {W W' : World} {gf gl ga ha hs : Nat} {p : PK} {σ : Ar} {sp : List Sp} (k : FLAt W gf gl ga ha hs p σ sp) (hm : Mod S W W') (h0 : gf ∉ S) (h1 : gl ∉ S) (h2 : ga ∉ S) (h3 : ha ∉ S) (h4 : hs ∉ S) : FLAt W' gf gl ga ha hs p σ sp := ⟨FlB.mod k.fb hm h0, k.at_.mod hm h1 h2 h3 h4, k.n1, k.n2, k.n3⟩
theorem FLAt.acts {W W' : World} {gf gl ga ha hs : Nat} {p : PK} {σ σ' : Ar} {sp sp' : List Sp} (k : FLAt W gf gl ga ha hs p σ sp) (h : p.At W' gl ga ha hs σ' sp') (hm : Mod [ga, ha, hs] W W') : FLAt W' gf gl ga ha hs p σ' sp' := by
  have h1 := k.n1
  have h2 := k.n2
  have h3 := k.n3
  exact ⟨FlB.mod k.fb hm (by simp; omega), h, h1, h2, h3⟩
theorem FLAt.blocks {W : World} {gf gl ga ha hs : Nat} {p : PK} {σ : Ar} {sp : List Sp} (k : FLAt W gf gl ga ha hs p σ sp) : gf < W.heap.size ∧ gl < W.heap.size ∧ ga < W.heap.size ∧ hs < W.heap.size :=
  ⟨lt_of_blk k.fb, k.at_.facts.2.2.2.1, k.at_.facts.1.lt, k.at_.facts.2.1.lt⟩
def AftK (b : Bool) (gl ga ha hs : Nat) (p : PK) (σ : Ar) (sp : List Sp) (w : World) (w' : World) : Prop := p.At w' gl ga ha hs σ sp ∧ Mod [ga, ha, hs] w w'
section
variable {gf gl ga ha hs : Nat} {p : PK} {σ : Ar} {sp : List Sp} {w : World} (K : FLAt w gf gl ga ha hs p σ sp)
include K
theorem kind_fl : Calls Try.prog 34 #[.pointer (some ⟨gf, 0, none⟩)] w fun e w' => e = .returned (.int .i64 p.num) ∧ w' = w := kind_yes gf p.num p.ty (p.val gl) w K.fb p.num_ne
theorem Ask_flat (n m : Nat) (ho : OkK p σ sp n m) (hm : m ≤ 100000) (i : Int) : Calls Try.prog 60 #[.pointer (some ⟨gf, 0, none⟩), .int .i64 i] w fun e w' => e = .returned (.bool (doK p σ sp 1 i).1) ∧ FLAt w' gf gl ga ha hs p (doK p σ sp 1 i).2.1 (doK p σ sp 1 i).2.2 ∧ Mod [ga, ha, hs] w w' := by
  suffices h : Calls Try.prog 60 #[.pointer (some ⟨gf, 0, none⟩), .int .i64 i] w fun e w' => e = .returned (.bool (doK p σ sp 1 i).1) ∧ (p.At w' gl ga ha hs (doK p σ sp 1 i).2.1 (doK p σ sp 1 i).2.2 ∧ Mod [ga, ha, hs] w w') from
    h.mono fun e w' ⟨h1, h2, h3⟩ => ⟨h1, K.acts h2 h3, h3⟩
  cases p with
  | tas P => exact Ask_gen gf 1 (by decide) _ _ _ _ w c1_Ask (m1_Ask gl) K.fb i _ _ ((Ta.ask_lk gl ga ha hs P σ sp w K.at_ i).mono fun e w' ⟨a, b, c⟩ => ⟨a, b, c.sub (by simp)⟩)
  | tic P => exact Ask_gen gf 2 (by decide) _ _ _ _ w c2_Ask (m2_Ask gl) K.fb i _ _ ((Tk.Ask_lk gl ga ha hs P σ sp w K.at_ i).mono fun e w' ⟨a, b, c⟩ => ⟨a, b, c.sub (by simp)⟩)
  | par P => exact Ask_gen gf 3 (by decide) _ _ _ _ w c3_Ask (m3_Ask gl) K.fb i _ _ ((Pt.Ask_lk gl ga ha hs P σ sp w K.at_ i).mono fun e w' ⟨a, b, c⟩ => ⟨a, b, c.sub (by simp)⟩)
  | mcs P => exact Ask_gen gf 4 (by decide) _ _ _ _ w c4_Ask (m4_Ask gl) K.fb i _ _ ((Mc.Ask_lk gl ga ha hs P σ sp w K.at_ i).mono fun e w' ⟨a, b, c⟩ => ⟨a, b, c.sub (by simp)⟩)
  | clh P => exact Ask_gen gf 5 (by decide) _ _ _ _ w c5_Ask (m5_Ask gl) K.fb i _ _ ((Cl.Ask_lk gl ga ha hs P σ sp w K.at_ i).mono fun e w' ⟨a, b, c⟩ => ⟨a, b, c.sub (by simp)⟩)
theorem Leave_flat (n m : Nat) (ho : OkK p σ sp n m) (hm : m ≤ 100000) (i : Int) : Calls Try.prog 63 #[.pointer (some ⟨gf, 0, none⟩), .int .i64 i] w fun e w' => e = .returned (.bool (doK p σ sp 2 i).1) ∧ FLAt w' gf gl ga ha hs p (doK p σ sp 2 i).2.1 (doK p σ sp 2 i).2.2 ∧ Mod [ga, ha, hs] w w' := by
  suffices h : Calls Try.prog 63 #[.pointer (some ⟨gf, 0, none⟩), .int .i64 i] w fun e w' => e = .returned (.bool (doK p σ sp 2 i).1) ∧ (p.At w' gl ga ha hs (doK p σ sp 2 i).2.1 (doK p σ sp 2 i).2.2 ∧ Mod [ga, ha, hs] w w') from
    h.mono fun e w' ⟨h1, h2, h3⟩ => ⟨h1, K.acts h2 h3, h3⟩
  cases p with
  | tas P => exact Leave_gen gf 1 (by decide) _ _ _ _ w c1_Leave (m1_Leave gl) K.fb i _ _ ((Ta.leave_lk gl ga ha hs P σ sp w K.at_ i).mono fun e w' ⟨a, b, c⟩ => ⟨a, b, c.sub (by simp)⟩)
  | tic P => exact Leave_gen gf 2 (by decide) _ _ _ _ w c2_Leave (m2_Leave gl) K.fb i _ _ ((Tk.Leave_lk gl ga ha hs P σ sp w K.at_ i).mono fun e w' ⟨a, b, c⟩ => ⟨a, b, c.sub (by simp)⟩)
  | par P => exact Leave_gen gf 3 (by decide) _ _ _ _ w c3_Leave (m3_Leave gl) K.fb i _ _ ((Pt.Leave_lk gl ga ha hs P σ sp w K.at_ i).mono fun e w' ⟨a, b, c⟩ => ⟨a, b, c.sub (by simp)⟩)
  | mcs P => exact Leave_gen gf 4 (by decide) _ _ _ _ w c4_Leave (m4_Leave gl) K.fb i _ _ ((Mc.Leave_lk gl ga ha hs P σ sp w K.at_ i).mono fun e w' ⟨a, b, c⟩ => ⟨a, b, c.sub (by simp)⟩)
  | clh P => exact Leave_gen gf 5 (by decide) _ _ _ _ w c5_Leave (m5_Leave gl) K.fb i _ _ ((Cl.Leave_lk gl ga ha hs P σ sp w K.at_ i).mono fun e w' ⟨a, b, c⟩ => ⟨a, b, c.sub (by simp)⟩)
theorem Step_flat (n m : Nat) (ho : OkK p σ sp n m) (hm : m ≤ 100000) (i : Int) : Calls Try.prog 62 #[.pointer (some ⟨gf, 0, none⟩), .int .i64 i] w fun e w' => e = .returned (.bool (doK p σ sp 0 i).1) ∧ FLAt w' gf gl ga ha hs p (doK p σ sp 0 i).2.1 (doK p σ sp 0 i).2.2 ∧ Mod [ga, ha, hs] w w' := by
  suffices h : Calls Try.prog 62 #[.pointer (some ⟨gf, 0, none⟩), .int .i64 i] w fun e w' => e = .returned (.bool (doK p σ sp 0 i).1) ∧ (p.At w' gl ga ha hs (doK p σ sp 0 i).2.1 (doK p σ sp 0 i).2.2 ∧ Mod [ga, ha, hs] w w') from
    h.mono fun e w' ⟨h1, h2, h3⟩ => ⟨h1, K.acts h2 h3, h3⟩
  cases p with
  | tas P => exact Step_gen gf 1 (by decide) _ _ _ _ w c1_Step (m1_Step gl) K.fb i _ _ (Ta.step_lk gl ga ha hs P σ sp w K.at_ (Ta.OkP.inv ho) (by have := Ta.OkP.ops ho; omega) i)
  | tic P => exact Step_gen gf 2 (by decide) _ _ _ _ w c2_Step (m2_Step gl) K.fb i _ _ (Tk.step_lk gl ga ha hs P σ sp w K.at_ (Tk.OkP.num ho hm) i)
  | par P => exact Step_gen gf 3 (by decide) _ _ _ _ w c3_Step (m3_Step gl) K.fb i _ _ (Pt.step_lk gl ga ha hs P σ sp w K.at_ (Pt.OkP.num ho hm) i)
  | mcs P => exact Step_gen gf 4 (by decide) _ _ _ _ w c4_Step (m4_Step gl) K.fb i _ _ (Mc.step_lk gl ga ha hs P σ sp w K.at_ (Mc.OkP.num ho hm) i)
  | clh P => exact Step_gen gf 5 (by decide) _ _ _ _ w c5_Step (m5_Step gl) K.fb i _ _ (Cl.step_lk gl ga ha hs P σ sp w K.at_ (Cl.OkP.num ho hm) i)
theorem Alone_flat (n m : Nat) (ho : OkK p σ sp n m) (hm : m ≤ 100000) (i : Int) : Calls Try.prog 61 #[.pointer (some ⟨gf, 0, none⟩), .int .i64 i] w fun e w' => e = .returned (.bool (doK p σ sp 3 i).1) ∧ FLAt w' gf gl ga ha hs p (doK p σ sp 3 i).2.1 (doK p σ sp 3 i).2.2 ∧ Mod [ga, ha, hs] w w' := by
  suffices h : Calls Try.prog 61 #[.pointer (some ⟨gf, 0, none⟩), .int .i64 i] w fun e w' => e = .returned (.bool (doK p σ sp 3 i).1) ∧ (p.At w' gl ga ha hs (doK p σ sp 3 i).2.1 (doK p σ sp 3 i).2.2 ∧ Mod [ga, ha, hs] w w') from
    h.mono fun e w' ⟨h1, h2, h3⟩ => ⟨h1, K.acts h2 h3, h3⟩
  cases p with
  | tas P => exact Alone_gen gf 1 (by decide) _ _ _ _ w c1_Alone (m1_Alone gl) K.fb i _ _ ((lone_alone gl ga ha hs P σ sp w K.at_ i _ rfl).mono fun e w' ⟨a, b⟩ => ⟨a, Ta.LkAt.same K.at_ b, Mod.of_below b⟩)
  | tic P => exact Alone_gen gf 2 (by decide) _ _ _ _ w c2_Alone (m2_Alone gl) K.fb i _ _ ((Tk.alone_lk gl ga ha hs P σ sp w K.at_ (Tk.OkP.num ho hm) i).mono fun e w' ⟨a, b, c⟩ => ⟨a, b, c.sub (by simp)⟩)
  | par P => exact Alone_gen gf 3 (by decide) _ _ _ _ w c3_Alone (m3_Alone gl) K.fb i _ _ ((Pt.alone_lk gl ga ha hs P σ sp w K.at_ (Pt.OkP.num ho hm).2.1 (Pt.OkP.num ho hm).2.2.1 i).mono fun e w' ⟨a, b, c⟩ => ⟨a, b, c.sub (by simp)⟩)
  | mcs P => exact Alone_gen gf 4 (by decide) _ _ _ _ w c4_Alone (m4_Alone gl) K.fb i _ _ ((Mc.alone_lk gl ga ha hs P σ sp w K.at_ (Mc.OkP.num ho hm) i).mono fun e w' ⟨a, b, c⟩ => ⟨a, b, c.sub (by simp)⟩)
  | clh P => exact Alone_gen gf 5 (by decide) _ _ _ _ w c5_Alone (m5_Alone gl) K.fb i _ _ ((Cl.alone_lk gl ga ha hs P σ sp w K.at_ (Cl.OkP.num ho hm) i).mono fun e w' ⟨a, b, c⟩ => ⟨a, b, c.sub (by simp)⟩)
theorem Slots_flat : Calls Try.prog 35 #[.pointer (some ⟨gf, 0, none⟩)] w fun e w' => e = .returned (.int .i64 (sp.length : Int)) ∧ w' = w := by
  cases p with
  | tas P => exact Slots_gen gf 1 (by decide) _ _ _ _ w c1_Slots (m1_Slots gl) K.fb _ (Ta.slots_lk gl ga ha hs P σ sp w K.at_)
  | tic P => exact Slots_gen gf 2 (by decide) _ _ _ _ w c2_Slots (m2_Slots gl) K.fb _ (Tk.LSlots_lk gl ga ha hs P σ sp w K.at_)
  | par P => exact Slots_gen gf 3 (by decide) _ _ _ _ w c3_Slots (m3_Slots gl) K.fb _ (Pt.slots_lk gl ga ha hs P σ sp w K.at_)
  | mcs P => exact Slots_gen gf 4 (by decide) _ _ _ _ w c4_Slots (m4_Slots gl) K.fb _ (Mc.slots_lk gl ga ha hs P σ sp w K.at_)
  | clh P => exact Slots_gen gf 5 (by decide) _ _ _ _ w c5_Slots (m5_Slots gl) K.fb _ (Cl.slots_lk gl ga ha hs P σ sp w K.at_)
theorem Spot_flat (i : Int) : Calls Try.prog 31 #[.pointer (some ⟨gf, 0, none⟩), .int .i64 i] w fun e w' => e = .returned (.agg #[.int .i64 (spOf sp i).pc, .int .i64 (spOf sp i).a, .int .i64 (spOf sp i).b, .int .i64 (spOf sp i).c]) ∧ Below w.heap.size w w' := by
  cases p with
  | tas P => exact Spot_gen gf 1 (by decide) _ _ _ _ w c1_Spot (m1_Spot gl) K.fb i _ (fun W hW => Ta.Spot_lk gl ga ha hs P σ sp W (Ta.LkAt.same K.at_ hW) i)
  | tic P => exact Spot_gen gf 2 (by decide) _ _ _ _ w c2_Spot (m2_Spot gl) K.fb i _ (fun W hW => Tk.LSpot_lk gl ga ha hs P σ sp W (Tk.LkAt.same K.at_ hW) i)
  | par P => exact Spot_gen gf 3 (by decide) _ _ _ _ w c3_Spot (m3_Spot gl) K.fb i _ (fun W hW => Pt.Spot_lk gl ga ha hs P σ sp W (Pt.LkAt.same K.at_ hW) i)
  | mcs P => exact Spot_gen gf 4 (by decide) _ _ _ _ w c4_Spot (m4_Spot gl) K.fb i _ (fun W hW => Mc.Spot_lk gl ga ha hs P σ sp W (Mc.LkAt.same K.at_ hW) i)
  | clh P => exact Spot_gen gf 5 (by decide) _ _ _ _ w c5_Spot (m5_Spot gl) K.fb i _ (fun W hW => Cl.Spot_lk gl ga ha hs P σ sp W (Cl.LkAt.same K.at_ hW) i)
end
end Go.Proofs.Ythffhhgaeolpgaa.Fl

/- Package flat: New, of all kinds. -/
namespace Go.Proofs.Ythffhhgaeolpgaa.Fl
open Go.RowKit Go.Proofs.Ythffhhgaeolpgaa.Ara Go.Proofs.Ythffhhgaeolpgaa.Lok

set_option maxRecDepth 100000 in
theorem new_k1 (ga ha : Nat) (σ σ1 : Ar) (w : World) (H : ArAt w ga ha σ) (hh : ha < w.heap.size) (n : Nat) (n1 : 1 ≤ n) (n2 : n ≤ 32) (par : Int) (m1 : 1 ≤ par) (m2 : par ≤ 1024) (next : Int) (ht : σ.take 1 = ((next, 0), σ1)) :
    Calls Try.prog 30 #[.pointer (some ⟨ga, 0, none⟩), .int .i64 1, .int .i64 (n : Int), .int .i64 par] w fun e w' => ∃ gf gl hs, e = .returned (.tuple #[.pointer (some ⟨gf, 0, none⟩), .int .i64 0]) ∧ FlB w' gf 1 91 (.agg #[.pointer (some ⟨gl, 0, none⟩)]) ∧ Ta.LkAt w' gl ga ha hs ⟨next, par⟩ σ1 (Ta.zeroS n) ∧ (w.heap.size ≤ gf ∧ w.heap.size ≤ gl ∧ w.heap.size ≤ hs ∧ gf ≠ hs) ∧ Mod [ga, ha] w w' := by
  have HN := Lib.hid (Ta.new_lk ga ha σ σ1 w H hh n n1 n2 par m1 m2 next ht)
  clear H ht
  go_enter Try.func30, Try.ntmps30
  go_wp2_with fail
  refine HN.out.mono ?_
  rintro e w2 ⟨gl, hs, rfl, hk, hgl, hhs, hm⟩
  have hbn := below_new w2 (.cells #[.int .i64 1, .iface 91 (.agg #[.pointer (some ⟨gl, 0, none⟩)])] 61)
  have HB := Lib.hid (blk_new w2 (.cells #[.int .i64 1, .iface 91 (.agg #[.pointer (some ⟨gl, 0, none⟩)])] 61))
  have hz := hm.size
  have hlt := hk.2.1.lt
  have HK := Lib.hid (hk.same hbn)
  have hmm := hm.alloc (.cells #[.int .i64 1, .iface 91 (.agg #[.pointer (some ⟨gl, 0, none⟩)])] 61)
  clear hk hm hbn
  go_wp2_with fail
  go_ret2
  exact ⟨w2.heap.size, gl, hs, rfl, HB.out, HK.out, by omega, hmm⟩
set_option maxRecDepth 100000 in
theorem new_k2 (ga ha : Nat) (σ σ1 : Ar) (w : World) (H : ArAt w ga ha σ) (hh : ha < w.heap.size) (n : Nat) (n1 : 1 ≤ n) (n2 : n ≤ 32) (par : Int) (next : Int) (ht : σ.take 2 = ((next, 0), σ1)) :
    Calls Try.prog 30 #[.pointer (some ⟨ga, 0, none⟩), .int .i64 2, .int .i64 (n : Int), .int .i64 par] w fun e w' => ∃ gf gl hs, e = .returned (.tuple #[.pointer (some ⟨gf, 0, none⟩), .int .i64 0]) ∧ FlB w' gf 2 92 (.pointer (some ⟨gl, 0, none⟩)) ∧ Tk.LkAt w' gl ga ha hs ⟨next⟩ σ1 (Ta.zeroS n) ∧ (w.heap.size ≤ gf ∧ w.heap.size ≤ gl ∧ w.heap.size ≤ hs ∧ gf ≠ hs) ∧ Mod [ga, ha] w w' := by
  have HN := Lib.hid (Tk.new_lk ga ha σ σ1 w H hh n n1 n2 next ht)
  clear H ht
  go_enter Try.func30, Try.ntmps30
  go_wp2_with fail
  refine HN.out.mono ?_
  rintro e w2 ⟨gl, hs, rfl, hk, hgl, hhs, hm⟩
  have hbn := below_new w2 (.cells #[.int .i64 2, .iface 92 (.pointer (some ⟨gl, 0, none⟩))] 61)
  have HB := Lib.hid (blk_new w2 (.cells #[.int .i64 2, .iface 92 (.pointer (some ⟨gl, 0, none⟩))] 61))
  have hz := hm.size
  have hlt := hk.2.1.lt
  have HK := Lib.hid (hk.same hbn)
  have hmm := hm.alloc (.cells #[.int .i64 2, .iface 92 (.pointer (some ⟨gl, 0, none⟩))] 61)
  clear hk hm hbn
  go_wp2_with fail
  go_ret2
  exact ⟨w2.heap.size, gl, hs, rfl, HB.out, HK.out, by omega, hmm⟩
set_option maxRecDepth 100000 in
theorem new_k3 (ga ha : Nat) (σ σ1 : Ar) (w : World) (H : ArAt w ga ha σ) (hh : ha < w.heap.size) (n : Nat) (n1 : 1 ≤ n) (n2 : n ≤ 32) (par : Int) (p1 : 1 ≤ par) (p2 : par ≤ 32) (next : Int) (x1 : 1 ≤ next) (x2 : next ≤ 4096) (ht : σ.take (1 + par) = ((next, 0), σ1)) (ho : σ1.ops ≤ 1000000) :
    Calls Try.prog 30 #[.pointer (some ⟨ga, 0, none⟩), .int .i64 3, .int .i64 (n : Int), .int .i64 par] w fun e w' => ∃ gf gl hs, e = .returned (.tuple #[.pointer (some ⟨gf, 0, none⟩), .int .i64 0]) ∧ FlB w' gf 3 26 (.pointer (some ⟨gl, 0, none⟩)) ∧ Pt.LkAt w' gl ga ha hs ⟨next, par⟩ (σ1.op 2 (Pt.place ⟨next, par⟩ 0) true 1) (Pt.zeroS n) ∧ (w.heap.size ≤ gf ∧ w.heap.size ≤ gl ∧ w.heap.size ≤ hs ∧ gf ≠ hs) ∧ Mod [ga, ha] w w' := by
  have HN := Lib.hid (Pt.new_lk ga ha σ σ1 w H hh n n1 n2 par next p1 p2 x1 x2 ht ho)
  clear H ht
  go_enter Try.func30, Try.ntmps30
  go_wp2_with fail
  refine HN.out.mono ?_
  rintro e w2 ⟨gl, hs, rfl, hk, hgl, hhs, hm⟩
  have hbn := below_new w2 (.cells #[.int .i64 3, .iface 26 (.pointer (some ⟨gl, 0, none⟩))] 61)
  have HB := Lib.hid (blk_new w2 (.cells #[.int .i64 3, .iface 26 (.pointer (some ⟨gl, 0, none⟩))] 61))
  have hz := hm.size
  have hlt := hk.2.1.lt
  have HK := Lib.hid (hk.same hbn)
  have hmm := hm.alloc (.cells #[.int .i64 3, .iface 26 (.pointer (some ⟨gl, 0, none⟩))] 61)
  clear hk hm hbn
  go_wp2_with fail
  go_ret2
  exact ⟨w2.heap.size, gl, hs, rfl, HB.out, HK.out, by omega, hmm⟩
set_option maxRecDepth 100000 in
theorem new_k4 (ga ha : Nat) (σ σ1 : Ar) (w : World) (H : ArAt w ga ha σ) (hh : ha < w.heap.size) (n : Nat) (n1 : 1 ≤ n) (n2 : n ≤ 32) (par : Int) (next : Int) (x1 : 1 ≤ next) (x2 : next ≤ 4096) (ht : σ.take (1 + 2 * (n : Int)) = ((next, 0), σ1)) (ho : σ1.ops ≤ 1000000) :
    Calls Try.prog 30 #[.pointer (some ⟨ga, 0, none⟩), .int .i64 4, .int .i64 (n : Int), .int .i64 par] w fun e w' => ∃ gf gl hs, e = .returned (.tuple #[.pointer (some ⟨gf, 0, none⟩), .int .i64 0]) ∧ FlB w' gf 4 48 (.pointer (some ⟨gl, 0, none⟩)) ∧ Mc.LkAt w' gl ga ha hs ⟨next⟩ σ1 (Mc.zeroS n) ∧ (w.heap.size ≤ gf ∧ w.heap.size ≤ gl ∧ w.heap.size ≤ hs ∧ gf ≠ hs) ∧ Mod [ga, ha] w w' := by
  have HN := Lib.hid (Mc.new_lk ga ha σ σ1 w H hh n n1 n2 next x1 x2 ht ho)
  clear H ht
  go_enter Try.func30, Try.ntmps30
  go_wp2_with fail
  refine HN.out.mono ?_
  rintro e w2 ⟨gl, hs, rfl, hk, hgl, hhs, hm⟩
  have hbn := below_new w2 (.cells #[.int .i64 4, .iface 48 (.pointer (some ⟨gl, 0, none⟩))] 61)
  have HB := Lib.hid (blk_new w2 (.cells #[.int .i64 4, .iface 48 (.pointer (some ⟨gl, 0, none⟩))] 61))
  have hz := hm.size
  have hlt := hk.2.1.lt
  have HK := Lib.hid (hk.same hbn)
  have hmm := hm.alloc (.cells #[.int .i64 4, .iface 48 (.pointer (some ⟨gl, 0, none⟩))] 61)
  clear hk hm hbn
  go_wp2_with fail
  go_ret2
  exact ⟨w2.heap.size, gl, hs, rfl, HB.out, HK.out, by omega, hmm⟩
set_option maxRecDepth 100000 in
theorem new_k5 (ga ha : Nat) (σ σ1 : Ar) (w : World) (H : ArAt w ga ha σ) (hh : ha < w.heap.size) (n : Nat) (n1 : 1 ≤ n) (n2 : n ≤ 32) (par : Int) (next : Int) (x1 : 1 ≤ next) (x2 : next ≤ 4096) (ht : σ.take ((n : Int) + 2) = ((next, 0), σ1)) (ho : σ1.ops ≤ 1000000) :
    Calls Try.prog 30 #[.pointer (some ⟨ga, 0, none⟩), .int .i64 5, .int .i64 (n : Int), .int .i64 par] w fun e w' => ∃ gf gl hs, e = .returned (.tuple #[.pointer (some ⟨gf, 0, none⟩), .int .i64 0]) ∧ FlB w' gf 5 44 (.pointer (some ⟨gl, 0, none⟩)) ∧ Cl.LkAt w' gl ga ha hs ⟨next⟩ (σ1.op 2 next true ((n : Int) + 1)) (Cl.first0 n) ∧ (w.heap.size ≤ gf ∧ w.heap.size ≤ gl ∧ w.heap.size ≤ hs ∧ gf ≠ hs) ∧ Mod [ga, ha] w w' := by
  have HN := Lib.hid (Cl.new_lk ga ha σ σ1 w H hh n n1 n2 next x1 x2 ht ho)
  clear H ht
  go_enter Try.func30, Try.ntmps30
  go_wp2_with fail
  refine HN.out.mono ?_
  rintro e w2 ⟨gl, hs, rfl, hk, hgl, hhs, hm⟩
  have hbn := below_new w2 (.cells #[.int .i64 5, .iface 44 (.pointer (some ⟨gl, 0, none⟩))] 61)
  have HB := Lib.hid (blk_new w2 (.cells #[.int .i64 5, .iface 44 (.pointer (some ⟨gl, 0, none⟩))] 61))
  have hz := hm.size
  have hlt := hk.2.1.lt
  have HK := Lib.hid (hk.same hbn)
  have hmm := hm.alloc (.cells #[.int .i64 5, .iface 44 (.pointer (some ⟨gl, 0, none⟩))] 61)
  clear hk hm hbn
  go_wp2_with fail
  go_ret2
  exact ⟨w2.heap.size, gl, hs, rfl, HB.out, HK.out, by omega, hmm⟩
/-- How many words a lock takes. -/
def sizeK (kind : Int) (n : Nat) (par : Int) : Nat := if kind = 1 then 1 else if kind = 2 then 2 else if kind = 3 then 1 + par.toNat else if kind = 4 then 1 + 2 * n else n + 2
def mayK (kind : Int) (n : Nat) (par : Int) : Prop := (1 ≤ kind ∧ kind ≤ 5) ∧ (1 ≤ n ∧ n ≤ 32) ∧ (kind = 1 → 1 ≤ par ∧ par ≤ 1024) ∧ (kind = 3 → 1 ≤ par ∧ par ≤ 32)
/-- A lock's kind, its words from a on. -/
def pkK (kind par : Int) (a : Nat) : PK := if kind = 1 then .tas ⟨a, par⟩ else if kind = 2 then .tic ⟨a⟩ else if kind = 3 then .par ⟨a, par⟩ else if kind = 4 then .mcs ⟨a⟩ else .clh ⟨a⟩
/-- What New leaves of the arena, and the spots. -/
def firstK (kind : Int) (n : Nat) (par : Int) (a : Nat) (σ1 : Ar) : Ar × List Sp :=
  if kind = 3 then (σ1.op 2 (Pt.place ⟨a, par⟩ 0) true 1, Pt.zeroS n) else if kind = 5 then (σ1.op 2 (a : Int) true ((n : Int) + 1), Cl.first0 n) else (σ1, Ta.zeroS n)
theorem take_ok {σ : Ar} {m : Nat} (h : σ.t + m ≤ σ.ws.length) : σ.take (m : Int) = (((σ.t : Int) + 1, 0), { σ with t := σ.t + m }) := by
  unfold Ar.take
  rw [if_neg (by omega), if_neg (by omega), Int.toNat_natCast]
theorem zr_take {σ : Ar} {m : Nat} (h : σ.t + m ≤ σ.ws.length) (hz : ∀ k, σ.t ≤ k → σ.ws.getD k 0 = 0) : Zr { σ with t := σ.t + m } (σ.t + 1) m := by
  refine ⟨h, by omega, by show σ.t + 1 + m ≤ σ.t + m + 1; omega, fun q h1 h2 => ?_⟩
  unfold Ar.get
  split
  · exact hz _ (by omega)
  · rfl
def NewAft (kind : Int) (n : Nat) (par : Int) (ga ha : Nat) (σ : Ar) (w : World) (e : Ending) (w' : World) : Prop :=
  ∃ gf gl hs, e = .returned (.tuple #[.pointer (some ⟨gf, 0, none⟩), .int .i64 0]) ∧ FLAt w' gf gl ga ha hs (pkK kind par (σ.t + 1)) (firstK kind n par (σ.t + 1) { σ with t := σ.t + sizeK kind n par }).1 (firstK kind n par (σ.t + 1) { σ with t := σ.t + sizeK kind n par }).2 ∧ (w.heap.size ≤ gf ∧ w.heap.size ≤ gl ∧ w.heap.size ≤ hs) ∧ Mod [ga, ha] w w'
theorem new_flat (kind : Int) (n : Nat) (par : Int) (hM : mayK kind n par) (ga ha : Nat) (σ : Ar) (w : World) (H : ArAt w ga ha σ) (hh : ha < w.heap.size) (hr : σ.t + sizeK kind n par ≤ σ.ws.length) (hw : σ.ws.length ≤ 4096) (ho : σ.ops ≤ 1000000) :
    Calls Try.prog 30 #[.pointer (some ⟨ga, 0, none⟩), .int .i64 kind, .int .i64 (n : Int), .int .i64 par] w (NewAft kind n par ga ha σ w) := by
  obtain ⟨⟨k1, k5⟩, ⟨n1, n2⟩, ha1, ha3⟩ := hM
  have hga := H.lt
  have htk := take_ok hr
  rcases (show kind = 1 ∨ kind = 2 ∨ kind = 3 ∨ kind = 4 ∨ kind = 5 by omega) with rfl | rfl | rfl | rfl | rfl
  · obtain ⟨m1, m2⟩ := ha1 rfl
    refine (new_k1 ga ha σ _ w H hh n n1 n2 par m1 m2 _ htk).mono ?_
    rintro e w' ⟨gf, gl, hs, rfl, hf, hk, ⟨b1, b2, b3, b4⟩, hm⟩
    exact ⟨gf, gl, hs, rfl, ⟨hf, hk, by omega, by omega, b4⟩, ⟨b1, b2, b3⟩, hm⟩
  · refine (new_k2 ga ha σ _ w H hh n n1 n2 par _ htk).mono ?_
    rintro e w' ⟨gf, gl, hs, rfl, hf, hk, ⟨b1, b2, b3, b4⟩, hm⟩
    exact ⟨gf, gl, hs, rfl, ⟨hf, hk, by omega, by omega, b4⟩, ⟨b1, b2, b3⟩, hm⟩
  · obtain ⟨p1, p2⟩ := ha3 rfl
    have hsz : sizeK 3 n par = 1 + par.toNat := rfl
    rw [hsz] at hr htk
    rw [show ((1 + par.toNat : Nat) : Int) = 1 + par by omega] at htk
    refine (new_k3 ga ha σ _ w H hh n n1 n2 par p1 p2 _ (by omega) (by omega) htk ho).mono ?_
    rintro e w' ⟨gf, gl, hs, rfl, hf, hk, ⟨b1, b2, b3, b4⟩, hm⟩
    exact ⟨gf, gl, hs, rfl, ⟨hf, hk, by omega, by omega, b4⟩, ⟨b1, b2, b3⟩, hm⟩
  · have hsz : sizeK 4 n par = 1 + 2 * n := rfl
    rw [hsz] at hr htk
    rw [show ((1 + 2 * n : Nat) : Int) = 1 + 2 * (n : Int) by omega] at htk
    refine (new_k4 ga ha σ _ w H hh n n1 n2 par _ (by omega) (by omega) htk ho).mono ?_
    rintro e w' ⟨gf, gl, hs, rfl, hf, hk, ⟨b1, b2, b3, b4⟩, hm⟩
    exact ⟨gf, gl, hs, rfl, ⟨hf, hk, by omega, by omega, b4⟩, ⟨b1, b2, b3⟩, hm⟩
  · have hsz : sizeK 5 n par = n + 2 := rfl
    rw [hsz] at hr htk
    rw [show ((n + 2 : Nat) : Int) = (n : Int) + 2 by omega] at htk
    refine (new_k5 ga ha σ _ w H hh n n1 n2 par _ (by omega) (by omega) htk ho).mono ?_
    rintro e w' ⟨gf, gl, hs, rfl, hf, hk, ⟨b1, b2, b3, b4⟩, hm⟩
    exact ⟨gf, gl, hs, rfl, ⟨hf, hk, by omega, by omega, b4⟩, ⟨b1, b2, b3⟩, hm⟩
theorem ok_flat (kind : Int) (n : Nat) (par : Int) (hM : mayK kind n par) (σ : Ar) (hz : ∀ k, σ.t ≤ k → σ.ws.getD k 0 = 0) (hr : σ.t + sizeK kind n par ≤ σ.ws.length) (hw : σ.ws.length ≤ 4096) (m : Nat) (ho : σ.ops ≤ m) :
    OkK (pkK kind par (σ.t + 1)) (firstK kind n par (σ.t + 1) { σ with t := σ.t + sizeK kind n par }).1 (firstK kind n par (σ.t + 1) { σ with t := σ.t + sizeK kind n par }).2 n m := by
  obtain ⟨⟨k1, k5⟩, ⟨n1, n2⟩, ha1, ha3⟩ := hM
  have hzr := zr_take hr hz
  rcases (show kind = 1 ∨ kind = 2 ∨ kind = 3 ∨ kind = 4 ∨ kind = 5 by omega) with rfl | rfl | rfl | rfl | rfl
  · obtain ⟨m1, m2⟩ := ha1 rfl
    exact Ta.ok_st hzr par m1 m2 n m (by show σ.ops ≤ _; omega)
  · exact Tk.ok_st hzr n m (by show σ.ops ≤ _; omega) (by have : sizeK 2 n par = 2 := rfl; omega)
  · obtain ⟨p1, p2⟩ := ha3 rfl
    obtain ⟨p, rfl⟩ := Int.eq_ofNat_of_zero_le (show 0 ≤ par by omega)
    have h9 : sizeK 3 n (p : Int) = 1 + p := rfl
    rw [h9] at hr
    exact Pt.ok_st (p := p) hzr (by omega) (by omega) n m ho (by omega)
  · exact Mc.ok_st hzr n2 m (by show σ.ops ≤ _; omega) (by have : sizeK 4 n par = 1 + 2 * n := rfl; omega)
  · exact Cl.ok_st hzr n2 m ho (by have : sizeK 5 n par = n + 2 := rfl; omega)
end Go.Proofs.Ythffhhgaeolpgaa.Fl

