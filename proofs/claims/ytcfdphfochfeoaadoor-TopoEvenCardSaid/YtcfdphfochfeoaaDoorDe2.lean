/- Walks of numbers' texts: the program's Text. -/
import Derived.Test.YtcfdphfochfeoaaDoorDe1
import Derived.Test.YtcfdphfochfeoaaDoorHeap
import Derived.Laws.BytesString
import Derived.ScopeJumps
namespace Go.Proofs.YtcfdphfochfeoaaDoor.De
open Go.RowKit Go.Proofs.YtcfdphfochfeoaaDoor.Li

def vU (b : UInt8) : Value := .int .u8 (b.toNat : Int)
theorem fold_push (D : List UInt8) : ∀ r : ByteArray, (D.map fun b => (b.toNat : Int)).foldl (fun (r : ByteArray) (n : Int) => r.push (UInt8.ofNat n.toNat)) r = B (L r ++ D) := by
  induction D with
  | nil => intro r; rw [List.append_nil]; exact (B_L r).symm
  | cons b t ih =>
    intro r
    rw [List.map_cons, List.foldl_cons, ih]
    congr 1
    have : L (r.push (UInt8.ofNat ((b.toNat : Int)).toNat)) = L r ++ [b] := by
      simp [L, ByteArray.push]
    rw [this, List.append_assoc]
    rfl
theorem conv_bytes (W : World) (g k c : Nat) (D : List UInt8) (hc : ∀ j (h : j < D.length), W.cell? ⟨g, k + j, none⟩ = some (vU D[j])) : (convert 100 9 (.slice (some ⟨g, k, none⟩) D.length c)).run Tryd.prog W = .ok (vS D) W := by
  rw [run_convert_bytes_string W _ _ _ _ _ _ Tryd.underlying100 Tryd.underlying5 Tryd.underlying9, run_bytesToString W _ _ _ (D.map fun b => (b.toNat : Int)) ?_]
  · rw [fold_push]
    rfl
  · have := run_loadCells_list (P := Tryd.prog) W ⟨g, k, none⟩ ((D.map fun b => (b.toNat : Int)).map (Value.int .u8)) (fun j v hv => by
      have hadd : (⟨g, k, none⟩ : Addr).add j = ⟨g, k + j, none⟩ := by unfold Addr.add; split <;> simp_all
      rw [List.map_map] at hv
      obtain ⟨h1, h2⟩ := List.getElem?_eq_some_iff.1 hv
      rw [hadd, hc j (by simpa using h1), ← h2]
      simp [vU])
    simpa using this

section
variable {P : Program} {a : Act} {w : World} {Q : Exit → Act → World → Prop}
theorem jump_mono {l : Nat} {J J' : Act → World → Prop} (h : ∀ a w, J a w → J' a w) {e : Exit} {a : Act} {w : World} (q : Exit.jump l J Q e a w) : Exit.jump l J' Q e a w := by
  cases e with
  | goto l' => exact ⟨q.1, h _ _ q.2⟩
  | _ => exact q
theorem wp_scope_one {c x : Code} (l : Nat) (J : Act → World → Prop) (μ : Act → World → Nat) (hf : findLabel c l = some (Code.skip.seq x))
    (pass : ∀ a w, J a w → x.wp P (Exit.jump l (fun a' w' => J a' w' ∧ μ a' w' < μ a w) Q) a w)
    (first : Hid (∀ a w, J a w → x.wp P (Exit.jump l J Q) a w) → c.wp P (Exit.jump l J Q) a w) : (Code.scope c).wp P Q a w :=
  wp_scope_jumps l J μ hf (first (Lib.hid fun a w h => Code.wp_mono (fun _ _ _ q => jump_mono (fun _ _ x => x.1) q) (pass a w h))) (fun a w h => wp_seq (wp_skip (pass a w h)))
end
theorem slice20 (g p : Nat) (hp : p < 20) (W : World) : (Instr.sliceAt 99 (.pointer (some ⟨g, 0, none⟩)) (some (.int .i64 (p : Int))) none none).run Tryd.prog W = .ok (.slice (some ⟨g, p, none⟩) (20 - p) (20 - p)) W := by
  have he : Tryd.prog.elem 99 = 5 := by kernel_rfl
  have hl : Tryd.prog.arrayLen 99 = 20 := by kernel_rfl
  have hu : Tryd.prog.underlying 99 = some (.array (Tryd.prog.arrayLen 99) (Tryd.prog.elem 99)) := by rw [he, hl]; exact Tryd.underlying99
  rw [run_sliceAt_array_l W _ _ hu .i64 (p : Int) (by omega) (by rw [hl]; omega), he, hl, Tryd.sizeOf5 W]
  show Result.ok (slicedAt _ _ _ _ _) _ = _
  unfold slicedAt
  rw [Int.toNat_natCast, if_neg (by omega)]
  simp only [Nat.mul_one]
  have hadd : (⟨g, 0, none⟩ : Addr).add p = ⟨g, p, none⟩ := by unfold Addr.add; split <;> simp_all
  rw [hadd]
theorem conv_row (W : World) (g p : Nat) (arr : Array Value) (D : List UInt8) (hblk : W.heap[g]? = some (.cells arr 99 (0, 0))) (hs : arr.size = 20) (hl : D.length + p = 20) (hD : ∀ j (h : j < D.length), arr[p + j]? = some (vU D[j])) :
    (convert 100 9 (.slice (some ⟨g, p, none⟩) (20 - p) (20 - p))).run Tryd.prog W = .ok (vS D) W := by
  have := conv_bytes W g p (20 - p) D (fun j h => by
    have h1 := blk_cell hblk (p + j) (by omega)
    have h2 := hD j h
    rw [Array.getElem?_eq_getElem (by omega)] at h2
    rw [h1]; exact h2)
  rw [show D.length = 20 - p by omega] at this
  exact this
theorem Exit.jump_ret {l : Nat} {J : Act → World → Prop} {Q : Exit → Act → World → Prop} {a : Act} {w : World} : Exit.jump l J Q .ret a w = Q .ret a w := rfl
theorem frame34 {a : Act} (h : a.tmps.size = 34) (hd : a.defers = []) : ∃ u : Nat → Value, a = { tmps := #[u 0, u 1, u 2, u 3, u 4, u 5, u 6, u 7, u 8, u 9, u 10, u 11, u 12, u 13, u 14, u 15, u 16, u 17, u 18, u 19, u 20, u 21, u 22, u 23, u 24, u 25, u 26, u 27, u 28, u 29, u 30, u 31, u 32, u 33], defers := [] } ∧ ∀ n, a.tmps.getD n undef = u n := by
  refine ⟨fun n => a.tmps.getD n undef, ?_, fun _ => rfl⟩
  have h1 := arr_lit a.tmps h
  cases a with
  | mk t d =>
    simp only at hd h1
    subst hd
    congr 1
/-- At 'more': the digits so far lie at the row's end. -/
def TtJ (n : Int) (g : Nat) (w0 : World) (a : Act) (w' : World) : Prop :=
  a.tmps.size = 34 ∧ a.defers = [] ∧ a.tmps.getD 0 undef = .int .i64 n ∧ a.tmps.getD 3 undef = .pointer (some ⟨g, 0, none⟩) ∧ ∃ (at_ : Nat) (x : Int) (D : List UInt8) (arr : Array Value), a.tmps.getD 4 undef = .int .i64 at_ ∧ a.tmps.getD 5 undef = .int .i64 x ∧
    digs n.natAbs = digs x.natAbs ++ D ∧ D.length + at_ = 20 ∧ (x ≠ 0 ∨ at_ = 20) ∧ (-9223372036854775808 ≤ x ∧ x ≤ 9223372036854775807) ∧ w'.heap[g]? = some (.cells arr 99 (0, 0)) ∧ arr.size = 20 ∧
    (∀ j (h : j < D.length), arr[at_ + j]? = some (vU D[j])) ∧ Below g w0 w'
set_option maxHeartbeats 4000000 in
set_option maxRecDepth 100000 in
theorem text_any (n : Int) (hb : -9223372036854775808 ≤ n ∧ n ≤ 9223372036854775807) (w : World) : Calls Tryd.prog 33 #[.int .i64 n] w fun e w' => e = .returned (vS (txt n)) ∧ Below w.heap.size w w' := by
  obtain ⟨g, hg⟩ : ∃ g, w.heap.size = g := ⟨_, rfl⟩
  rw [hg]
  go_enter Tryd.func33, Tryd.ntmps33
  go_wp2_with fail
  refine wp_scope_one 0 (TtJ n g w) (fun a' _ => (intOf (a'.tmps.getD 5 undef)).natAbs) rfl ?_ ?_
  · rintro a' w' ⟨hsz, hdf, s0, s3, at_, x, D, arr, s4, s5, hdig, hlen, hx0, hxb, hblk, has, hD, hbel⟩
    obtain ⟨u, rfl, hu⟩ := frame34 hsz hdf
    rw [hu] at s0 s3 s4 s5
    simp only [s0, s3, s4, s5]
    clear hsz hdf s0 s3 s4 s5 hu
    have hl1 := digs_len 18 n.natAbs (by simp; omega)
    obtain ⟨c0, t0, hh, _⟩ := digs_head _ _ (Nat.le_refl x.natAbs)
    have hl2 : 1 ≤ (digs x.natAbs).length := by rw [hh]; simp
    have hl3 := congrArg List.length hdig
    rw [List.length_append] at hl3
    obtain ⟨p, rfl⟩ : ∃ p, at_ = p + 1 := ⟨at_ - 1, by omega⟩
    have hp1 : 1 ≤ p := by omega
    have hp2 : p < 20 := by omega
    clear hl1 hl2 hl3 hh
    have h1 : (x.tmod 10).natAbs = x.natAbs % 10 := by rw [Int.natAbs_tmod]; rfl
    have h2 : (x.tdiv 10).natAbs = x.natAbs / 10 := by rw [Int.natAbs_tdiv]; rfl
    have hw := IntWalk.i64_quo' x 10 ⟨hxb.1, hxb.2, by omega⟩
    have hd10 : x.natAbs % 10 < 10 := Nat.mod_lt _ (by omega)
    have hstep : Hid (digs n.natAbs = (if x.natAbs < 10 then [] else digs (x.natAbs / 10)) ++ (dg (x.natAbs % 10) :: D)) := Lib.hid (by
      rw [hdig]
      by_cases h : x.natAbs < 10
      · rw [if_pos h, digs_lt h, Nat.mod_eq_of_lt h]; rfl
      · rw [if_neg h, digs_ge (by omega), List.append_assoc]; rfl)
    have hqb : Hid (-9223372036854775808 ≤ x.tdiv 10 ∧ x.tdiv 10 ≤ 9223372036854775807) := Lib.hid (by omega)
    generalize hre : x.tmod 10 = r at *
    generalize hq : x.tdiv 10 = q at *
    generalize hm : x.natAbs % 10 = d at *
    have hu : Hid (Value.int .u8 (48 + (d : Int)) = vU (dg d)) := Lib.hid (by unfold vU; rw [dg_nat hd10]; rfl)
    obtain ⟨old, hcell⟩ : ∃ old, w'.cell? ⟨g, p, none⟩ = some old := ⟨_, blk_cell hblk p (by omega)⟩
    have hfree := blk_free hblk p
    have hblk2 := blk_set hblk p (vU (dg d))
    have hD2 : Hid (∀ j (h : j < (dg d :: D).length), (arr.setIfInBounds p (vU (dg d)))[p + j]? = some (vU (dg d :: D)[j])) := Lib.hid (by
      intro j hj
      cases j with
      | zero => simp [has, hp2]
      | succ j =>
        have := hD j (by simpa using hj)
        rw [Array.getElem?_setIfInBounds_ne (by omega), show p + (j + 1) = p + 1 + j by omega, this]
        rfl)
    have HB2 := Lib.hid hblk2
    have has2 : Hid ((arr.setIfInBounds p (vU (dg d))).size = 20) := Lib.hid (by simpa using has)
    have hlen2 : Hid ((dg d :: D).length + p = 20) := Lib.hid (by simp; omega)
    have HBel := Lib.hid (hbel.setCell (p := ⟨g, p, none⟩) (Nat.le_refl _) (vU (dg d)))
    have i1 : (d : Int) < 10 := by omega
    have i3 : (0 : Int) ≤ (d : Int) := by omega
    have i4 : (p : Int) < 20 := by omega
    have i5 : (1 : Int) ≤ (p : Int) := by omega
    clear hblk hblk2 hD hdig hbel hlen has
    by_cases hr : r < 0
    · obtain rfl : r = -(d : Int) := by omega
      by_cases hq0 : q = 0
      · subst hq0
        have hle : x.natAbs < 10 := by omega
        have hs3 := Lib.hid (show digs n.natAbs = dg d :: D by rw [hstep.out, if_pos hle]; rfl)
        clear h2 hm h1 hx0 hle hqb
        by_cases hn : n < 0
        · have ht := Lib.hid (show txt n = 45 :: dg d :: D by unfold txt; rw [if_pos hn, hs3.out])
          obtain ⟨p, rfl⟩ : ∃ p2, p = p2 + 1 := ⟨p - 1, by omega⟩
          obtain ⟨old2, hcell2⟩ : ∃ old, (w'.setCell ⟨g, p + 1, none⟩ (.int .u8 (48 + (d : Int)))).cell? ⟨g, p, none⟩ = some old := ⟨_, by rw [hu.out]; exact blk_cell HB2.out p (by rw [has2.out]; omega)⟩
          have hfree2 : (w'.setCell ⟨g, p + 1, none⟩ (.int .u8 (48 + (d : Int)))).frozen? ⟨g, p, none⟩ = false := by rw [hu.out]; exact blk_free HB2.out p
          have hblk3 : ((w'.setCell ⟨g, p + 1, none⟩ (.int .u8 (48 + (d : Int)))).setCell ⟨g, p, none⟩ (.int .u8 45)).heap[g]? = some (.cells ((arr.setIfInBounds (p + 1) (vU (dg d))).setIfInBounds p (.int .u8 45)) 99 (0, 0)) := by
            rw [hu.out]; exact blk_set HB2.out p _
          have hcv := conv_row _ g p _ (45 :: dg d :: D) hblk3 (by rw [Array.size_setIfInBounds]; exact has2.out) (by have := hlen2.out; simp only [List.length_cons] at this ⊢; omega) (fun j hj => by
            cases j with
            | zero =>
              show ((arr.setIfInBounds (p + 1) (vU (dg d))).setIfInBounds p (.int .u8 45))[p]? = some (.int .u8 45)
              rw [Array.getElem?_setIfInBounds_self_of_lt (by rw [has2.out]; omega)]
            | succ j => 
              have := hD2.out j (by simpa using hj)
              rw [Array.getElem?_setIfInBounds_ne (by omega), show p + (j + 1) = p + 1 + j by omega, this]
              rfl)
          have hsl := slice20 g p (by omega)
          have HB3 := Lib.hid (HBel.out.setCell (p := ⟨g, p, none⟩) (Nat.le_refl _) (.int .u8 45))
          have i6 : (0 : Int) ≤ (p : Int) := by omega
          clear hblk3
          go_wp2_with fail
          rw [Exit.jump_ret]
          go_ret
          exact ⟨by rw [ht.out]; rfl, by rw [hu.out]; exact HB3.out⟩
        · have ht := Lib.hid (show txt n = dg d :: D by unfold txt; rw [if_neg hn, hs3.out])
          have hblk3 : (w'.setCell ⟨g, p, none⟩ (.int .u8 (48 + (d : Int)))).heap[g]? = some (.cells (arr.setIfInBounds p (vU (dg d))) 99 (0, 0)) := by
            rw [hu.out]; exact HB2.out
          have hcv := conv_row _ g p _ (dg d :: D) hblk3 has2.out hlen2.out hD2.out
          have hsl := slice20 g p hp2
          clear hblk3
          go_wp2_with fail
          rw [Exit.jump_ret]
          go_ret
          exact ⟨by rw [ht.out]; rfl, by rw [hu.out]; exact HBel.out⟩
      · have q0 := ibne hq0
        have hge : ¬ x.natAbs < 10 := by intro h; apply hq0; omega
        have hs3 := Lib.hid (show digs n.natAbs = digs q.natAbs ++ (dg d :: D) by rw [hstep.out, if_neg hge, h2])
        have hme : q.natAbs < x.natAbs := by omega
        clear h2 hm h1 hx0 hge
        go_wp2_with fail
        go_step3
        rw [hu.out]
        exact ⟨rfl, ⟨rfl, rfl, rfl, rfl, p, q, dg d :: D, _, rfl, rfl, hs3.out, hlen2.out, .inl hq0, hqb.out, HB2.out, has2.out, hD2.out, HBel.out⟩, by simpa [intOf] using hme⟩
    · obtain rfl : r = (d : Int) := by omega
      by_cases hq0 : q = 0
      · subst hq0
        have hle : x.natAbs < 10 := by omega
        have hs3 := Lib.hid (show digs n.natAbs = dg d :: D by rw [hstep.out, if_pos hle]; rfl)
        clear h2 hm h1 hx0 hle hqb
        by_cases hn : n < 0
        · have ht := Lib.hid (show txt n = 45 :: dg d :: D by unfold txt; rw [if_pos hn, hs3.out])
          obtain ⟨p, rfl⟩ : ∃ p2, p = p2 + 1 := ⟨p - 1, by omega⟩
          obtain ⟨old2, hcell2⟩ : ∃ old, (w'.setCell ⟨g, p + 1, none⟩ (.int .u8 (48 + (d : Int)))).cell? ⟨g, p, none⟩ = some old := ⟨_, by rw [hu.out]; exact blk_cell HB2.out p (by rw [has2.out]; omega)⟩
          have hfree2 : (w'.setCell ⟨g, p + 1, none⟩ (.int .u8 (48 + (d : Int)))).frozen? ⟨g, p, none⟩ = false := by rw [hu.out]; exact blk_free HB2.out p
          have hblk3 : ((w'.setCell ⟨g, p + 1, none⟩ (.int .u8 (48 + (d : Int)))).setCell ⟨g, p, none⟩ (.int .u8 45)).heap[g]? = some (.cells ((arr.setIfInBounds (p + 1) (vU (dg d))).setIfInBounds p (.int .u8 45)) 99 (0, 0)) := by
            rw [hu.out]; exact blk_set HB2.out p _
          have hcv := conv_row _ g p _ (45 :: dg d :: D) hblk3 (by rw [Array.size_setIfInBounds]; exact has2.out) (by have := hlen2.out; simp only [List.length_cons] at this ⊢; omega) (fun j hj => by
            cases j with
            | zero =>
              show ((arr.setIfInBounds (p + 1) (vU (dg d))).setIfInBounds p (.int .u8 45))[p]? = some (.int .u8 45)
              rw [Array.getElem?_setIfInBounds_self_of_lt (by rw [has2.out]; omega)]
            | succ j => 
              have := hD2.out j (by simpa using hj)
              rw [Array.getElem?_setIfInBounds_ne (by omega), show p + (j + 1) = p + 1 + j by omega, this]
              rfl)
          have hsl := slice20 g p (by omega)
          have HB3 := Lib.hid (HBel.out.setCell (p := ⟨g, p, none⟩) (Nat.le_refl _) (.int .u8 45))
          have i6 : (0 : Int) ≤ (p : Int) := by omega
          clear hblk3
          go_wp2_with fail
          rw [Exit.jump_ret]
          go_ret
          exact ⟨by rw [ht.out]; rfl, by rw [hu.out]; exact HB3.out⟩
        · have ht := Lib.hid (show txt n = dg d :: D by unfold txt; rw [if_neg hn, hs3.out])
          have hblk3 : (w'.setCell ⟨g, p, none⟩ (.int .u8 (48 + (d : Int)))).heap[g]? = some (.cells (arr.setIfInBounds p (vU (dg d))) 99 (0, 0)) := by
            rw [hu.out]; exact HB2.out
          have hcv := conv_row _ g p _ (dg d :: D) hblk3 has2.out hlen2.out hD2.out
          have hsl := slice20 g p hp2
          clear hblk3
          go_wp2_with fail
          rw [Exit.jump_ret]
          go_ret
          exact ⟨by rw [ht.out]; rfl, by rw [hu.out]; exact HBel.out⟩
      · have q0 := ibne hq0
        have hge : ¬ x.natAbs < 10 := by intro h; apply hq0; omega
        have hs3 := Lib.hid (show digs n.natAbs = digs q.natAbs ++ (dg d :: D) by rw [hstep.out, if_neg hge, h2])
        have hme : q.natAbs < x.natAbs := by omega
        clear h2 hm h1 hx0 hge
        go_wp2_with fail
        go_step3
        rw [hu.out]
        exact ⟨rfl, ⟨rfl, rfl, rfl, rfl, p, q, dg d :: D, _, rfl, rfl, hs3.out, hlen2.out, .inl hq0, hqb.out, HB2.out, has2.out, hD2.out, HBel.out⟩, by simpa [intOf] using hme⟩
  · intro hmore
    go_wp2_with fail
    go_step3
    rename_i hK
    refine hK _ _ ?_
    exact hmore.out _ _ ⟨rfl, rfl, rfl, rfl, 20, n, [], _, rfl, rfl, (List.append_nil _).symm, rfl, .inr rfl, hb, by rw [← hg]; exact blk_new _ _, rfl, by simp, by rw [← hg]; exact below_new _ _⟩
end Go.Proofs.YtcfdphfochfeoaaDoor.De
