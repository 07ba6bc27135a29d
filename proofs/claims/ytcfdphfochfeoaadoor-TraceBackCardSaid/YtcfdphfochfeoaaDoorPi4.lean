/- Walks of picks: the program's text. -/
import Derived.Test.YtcfdphfochfeoaaDoorPi3
namespace Go.Proofs.YtcfdphfochfeoaaDoor.Pi
open Go.RowKit Go.Proofs.YtcfdphfochfeoaaDoor.Li Go.Proofs.YtcfdphfochfeoaaDoor.De Go.Proofs.YtcfdphfochfeoaaDoor.Ara

theorem join_js (ls : List (List UInt8)) (h : ls ≠ []) : Lib.join ls [32] = js ls := by
  cases ls with
  | nil => exact absurd rfl h
  | cons x r =>
    rw [Lib.join_cons]
    clear h
    induction r generalizing x with
    | nil => simp [Lib.joinTail, js]
    | cons y t ih =>
      rw [js_cons _ _ (by simp), ← ih y]
      simp [Lib.joinTail]
theorem joins_any (ls : List (List UInt8)) (A : Option Addr) (c : Nat) (w : World) (hc : ls.length ≤ c) (hm : ls.length ≤ 4096) (hz : (js ls).length ≤ 65536) (hs : Sl w w.heap.size A (ls.map vS)) :
    Calls Tryd.prog 90 #[.slice A ls.length c, .string ⟨#[32]⟩] w fun e w' => e = .returned (vS (js ls)) ∧ Below w.heap.size w w' := by
  by_cases h0 : ls = []
  · subst h0
    refine (Tryd.strings_Join_none A c ⟨#[32]⟩ w).mono ?_
    rintro e w' ⟨rfl, rfl⟩
    exact ⟨rfl, Below.refl _ _⟩
  · have hpos : 0 < ls.length := List.length_pos_iff.2 h0
    obtain ⟨b, off, rfl, hb, hcell⟩ := sl_str hs hpos
    have hj : Lib.join ((ls.map B).map (·.data.toList)) (⟨#[32]⟩ : ByteArray).data.toList = js ls := by
      rw [List.map_map, show ((fun x : ByteArray => x.data.toList) ∘ B) = id from rfl, List.map_id]
      exact join_js ls h0
    have := Tryd.strings_Join b off c (ls.map B) ⟨#[32]⟩ w (fun j x hx => by
      obtain ⟨h1, h2⟩ := List.getElem?_eq_some_iff.1 hx
      rw [List.length_map] at h1
      rw [hcell j h1, ← h2, List.getElem_map]) hb (by rw [List.length_map]; omega) (by rw [List.length_map]; exact hc) (by rw [hj]; omega)
    rw [hj, List.length_map] at this
    exact this
/-- 'out = append(out, x)' as one operation of a region that draws. -/
theorem wp_append1 {P : Program} {o : Oper} {a : Act} {K : Act → World → Prop} {Q : Exit → Act → World → Prop} (s x : Operand) (t e : TypeId) (z : Value) (size bytes : Nat)
    (ho : o.op = .call { callee := .builtin .append, args := #[s, x], argTypes := #[t, t] }) (ht : P.underlying t = some (.slice e))
    (hinfo : (P.info? e).map (fun i => (i.zero, i.size, i.bytes)) = some (some z, size, bytes)) (hzs : z.cells.size = size) (hsz : 0 < size)
    (base : Nat) (w : World) (v : Value) (n : Nat) (xs : List Value) (news : Array Value) (e' : TypeId) (c g : Nat) (hown : w.ownsRow base e size v n xs) (hs : a.eval s = v) (hx : a.eval x = .slice (some ⟨g, 0, none⟩) 1 c) (hgs : w.heap.size = g)
    (hl : news.size = size) (h1 : ∀ u ∈ news.toList, u.oneCell' = true) (h63 : n + 1 ≤ maxLen) (hbytes : (n + 1) * bytes ≤ 140737488355328) (hbase : base ≤ w.heap.size)
    (h : ∀ v' w', Hid (w'.ownsRow base e size v' (n + 1) (xs ++ news.toList)) → Hid (Below base w w') → Hid (w.grownBy w' v.ownBlock) → K (a.put o.dst v') w') :
    o.wp P a (w.alloc (.cells news e')) K Q := by
  subst hgs
  obtain ⟨i0, hi0, hz0, hz1, hz2⟩ := info_parts hinfo
  refine wp_append_own (w.alloc (.cells news e')) s x t ho base e i0 z size bytes ht hi0 hz0 hz1 hz2 hzs hsz v n xs hs (hown.alloc _) ⟨w.heap.size, 0, none⟩ 1 c news.toList hx (by simpa using hl) ?_ h1 h63 hbytes (by simp; omega) ?_
  · intro j u hu
    have hadd : (⟨w.heap.size, 0, none⟩ : Addr).add j = ⟨w.heap.size, j, none⟩ := by unfold Addr.add; split <;> simp_all
    rw [hadd, World.cell?_alloc_at _ _ _ _ rfl]
    simpa using hu
  · intro v' w' h2 h3 _
    have hg := grown_trans (World.grownBy_alloc w (.cells news e') v.ownBlock) h3
    exact h v' w' h2 ((Below.refl _ _).grown hg hbase (fun k hk => (hown.lt k hk).1)) hg
theorem let_slice (m : Nat) (hm : m < 5) (W : World) : (Instr.sliceAt 9 (.string (⟨#[115, 108, 117, 114, 118]⟩ : ByteArray)) (some (.int .i64 (m : Int))) (some (.int .i64 ((m : Int) + 1))) none).run Tryd.prog W = .ok (.string (((⟨#[115, 108, 117, 114, 118]⟩ : ByteArray)).extract m (m + 1))) W := by
  rw [run_sliceAt_string W _ _ _ _ _ Tryd.underlying9]
  have h1 : ((m : Int) + 1).toNat = m + 1 := by omega
  have hsz : ((⟨#[115, 108, 117, 114, 118]⟩ : ByteArray)).size = 5 := rfl
  have b1 := fun code => run_sliceBound (P := Tryd.prog) W .i64 ((m : Int) + 1) 5 code (by omega) (by omega)
  have b2 := fun code => run_sliceBound (P := Tryd.prog) W .i64 (m : Int) (m + 1) code (by omega) (by omega)
  rw [h1] at b1
  rw [Int.toNat_natCast] at b2
  simp [Instr.slice, run_underlying Tryd.underlying9, Instr.sliceBounds, hsz, b1, b2]
theorem frame40 {a : Act} (h : a.tmps.size = 40) (hd : a.defers = []) : ∃ u : Nat → Value, a = { tmps := #[u 0, u 1, u 2, u 3, u 4, u 5, u 6, u 7, u 8, u 9, u 10, u 11, u 12, u 13, u 14, u 15, u 16, u 17, u 18, u 19, u 20, u 21, u 22, u 23, u 24, u 25, u 26, u 27, u 28, u 29, u 30, u 31, u 32, u 33, u 34, u 35, u 36, u 37, u 38, u 39], defers := [] } ∧ ∀ n, a.tmps.getD n undef = u n := by
  refine ⟨fun n => a.tmps.getD n undef, ?_, fun _ => rfl⟩
  have h1 := arr_lit a.tmps h
  cases a with
  | mk t d =>
    simp only at hd h1
    subst hd
    congr 1
def PtJ (ps : List Pk) (w0 : World) (A : Option Addr) (cap : Nat) (a : Act) (w' : World) : Prop :=
  a.tmps.size = 40 ∧ a.defers = [] ∧ a.tmps.getD 10 undef = .slice A ps.length cap ∧ a.tmps.getD 11 undef = .int .i64 (ps.length : Int) ∧ ∃ (k : Nat) (v : Value), a.tmps.getD 4 undef = v ∧ a.tmps.getD 12 undef = .int .i64 (k : Int) ∧ k ≤ ps.length ∧
    w'.ownsRow w0.heap.size 9 1 v k (((ps.take k).map wordP).map vS) ∧ Below w0.heap.size w0 w' ∧ (∀ p ∈ ps.take k, goodP p = true)
set_option maxRecDepth 100000 in
set_option maxHeartbeats 4000000 in
theorem text_any (ps : List Pk) (A : Option Addr) (cap : Nat) (w : World) (hm : ps.length ≤ 1000) (h64 : ∀ p ∈ ps, okP p) (hs : Sl w w.heap.size A (ps.flatMap dP)) :
    Calls Tryd.prog 41 #[.slice A ps.length cap] w fun e w' => e = .returned (.tuple #[vS (textP ps).1, .int .i64 (textP ps).2]) ∧ Below w.heap.size w w' := by
  have i0 : ¬ (4000 : Int) < (ps.length : Int) := by omega
  have HZ := Lib.hid (js_le ps h64 ps.length)
  go_enter Tryd.func41, Tryd.ntmps41
  go_wp2_with fail
  refine wp_loop (PtJ ps w A cap) (fun a' _ => ps.length - (intOf (a'.tmps.getD 12 undef)).toNat) ?_ ?_
  · exact ⟨rfl, rfl, rfl, rfl, 0, _, rfl, rfl, Nat.zero_le _, World.ownsRow_nil _ _ _ _, Below.refl _ _, by simp⟩
  · rintro a' w' ⟨hsz, hdf, s10, s11, k, v, s4, s12, hk, hown, hbel, hg⟩
    obtain ⟨u, rfl, hu⟩ := frame40 hsz hdf
    rw [hu] at s4 s10 s11 s12
    simp only [s4, s10, s11, s12]
    clear hsz hdf s4 s10 s11 s12 hu
    by_cases hlt : k < ps.length
    · obtain ⟨b, off, rfl, hbb, hcell⟩ := sl_pk (hs.below hbel) hlt
      obtain ⟨h0, h1⟩ := hcell k hlt
      have hbx := h64 ps[k] (List.getElem_mem hlt)
      have HBAD := Lib.hid (fun h => text_bad hlt (good_no h))
      have HG := Lib.hid (fun h1 h2 => good_take hlt hg (good_yes h1 h2))
      have HK := Lib.hid (List.take_succ_eq_append_getElem hlt)
      have i1 : (k : Int) < (ps.length : Int) := by omega
      have HB := Lib.hid hbel
      have hwq := hbel.size
      have HO := Lib.hid hown
      clear hcell hbel hown h64 hg hs
      generalize ps[k] = x at *
      by_cases hneg : x.want < 0
      · have HE := Lib.hid (HBAD.out (.inl hneg))
        go_wp2_with fail
        go_ret2
        exact ⟨by rw [HE.out]; rfl, HB.out.alloc hwq _⟩
      · by_cases hbig : 5 ≤ x.want
        · have HE := Lib.hid (HBAD.out (.inr (by omega)))
          go_wp2_with fail
          go_ret2
          exact ⟨by rw [HE.out]; rfl, HB.out.alloc hwq _⟩
        · obtain ⟨m, hm0⟩ := Int.eq_ofNat_of_zero_le (show 0 ≤ x.want by omega)
          have HG := Lib.hid (HG.out (by omega) (by omega))
          have HWD := Lib.hid (show wordP x = txt x.th ++ [lets.getD m 0] by unfold wordP; rw [hm0]; rfl)
          rw [hm0] at h1 hneg hbig
          have HT := Lib.hid (fun W => De.text_any x.th hbx.1 W)
          have HX := Lib.hid (let_ext m (by omega))
          have hxs : (((⟨#[115, 108, 117, 114, 118]⟩ : ByteArray)).extract m (m + 1)).size = 1 := by rw [let_ext m (by omega)]; rfl
          have hX := txt_len hbx.1
          have hst := size_B (txt x.th)
          have ad1 := add_any (B (txt x.th)) (((⟨#[115, 108, 117, 114, 118]⟩ : ByteArray)).extract m (m + 1)) (by rw [hst, hxs]; omega)
          have i4 : (0 : Int) ≤ (m : Int) := by omega
          have i7 : (m : Int) ≤ 4 := by omega
          have i8 : (m : Int) + 1 ≤ 5 := by omega
          have hnb : ¬ 9223372036854775807 < (txt x.th).length + (min (m + 1) 5 - m) := by omega
          have hwm := IntWalk.i64_in ((m : Int) + 1) (by omega)
          have sls := fun W => let_slice m (by omega) W
          clear hm0 HBAD hst hxs
          generalize txt x.th = t at *
          go_wp2_with fail
          have hblk : (w'.alloc (.cells #[.int .i64 x.th, .int .i64 (m : Int)] 59)).heap[w'.heap.size]? = some (.cells #[.int .i64 x.th, .int .i64 (m : Int)] 59 (0, 0)) := blk_new w' _
          have c0 := blk_cell hblk 0 (by simp)
          have c1 := blk_cell hblk 1 (by simp)
          simp only [List.getElem_toArray, List.getElem_cons_zero, List.getElem_cons_succ] at c0 c1
          have HBLK := Lib.hid hblk
          have hown1 := Lib.hid (HO.out.alloc (.cells #[.int .i64 x.th, .int .i64 (m : Int)] 59))
          have hb1 := Lib.hid (HB.out.alloc HB.out.size (.cells #[.int .i64 x.th, .int .i64 (m : Int)] 59))
          have hgs : (w'.alloc (.cells #[.int .i64 x.th, .int .i64 (m : Int)] 59)).heap.size = w'.heap.size + 1 := by simp
          have HN := Lib.hid (show ∀ b, v.ownBlock = some b → b ≠ w'.heap.size from fun b hb e => by
            have := (HO.out.lt b hb).2
            omega)
          clear hblk
          generalize (w'.alloc (.cells #[.int .i64 x.th, .int .i64 (m : Int)] 59)) = W1 at *
          generalize w'.heap.size = g at *
          refine wp_region_held_drew (S := fun V => V.cell? ⟨g, 0, none⟩ = some (.int .i64 x.th) ∧ V.cell? ⟨g, 1, none⟩ = some (.int .i64 (m : Int))) (by kernel_rfl) ⟨c0, c1⟩ (fun hHeld => ?_)
          refine take_to 0 (some 24) (v := ?_) rfl rfl (by kernel_rfl) (by kernel_rfl) (by kernel_rfl) (fun _ _ _ h => h) (Or.inl ⟨by rfl, ?_⟩) (by first | trivial | assumption) ?_
          rotate_left
          focus (intro w hSw; (try dsimp only at hSw); go_simp; (try with_reducible rfl))
          simp only [Act.put, List.setIfInBounds_toArray, List.set_cons_zero, List.set_cons_succ]
          refine take_to 1 (some 25) (v := ?_) rfl rfl (by kernel_rfl) (by kernel_rfl) (by kernel_rfl) (fun _ _ _ h => h) (Or.inl ⟨by rfl, ?_⟩) (by first | trivial | assumption) ?_
          rotate_left
          focus (intro w hSw; (try dsimp only at hSw); go_simp; (try with_reducible rfl))
          simp only [Act.put, List.setIfInBounds_toArray, List.set_cons_zero, List.set_cons_succ]
          refine take_to 2 (some 26) (v := ?_) rfl rfl (by kernel_rfl) (by kernel_rfl) (by kernel_rfl) (fun _ _ _ h => h) (Or.inl ⟨by rfl, ?_⟩) (by first | trivial | assumption) ?_
          rotate_left
          focus (intro w hSw; (try dsimp only at hSw); go_simp; (try with_reducible rfl))
          simp only [Act.put, List.setIfInBounds_toArray, List.set_cons_zero, List.set_cons_succ]
          refine take_to 4 (some 28) (v := ?_) rfl rfl (by kernel_rfl) (by kernel_rfl) (by kernel_rfl) (fun _ _ _ h => h) (Or.inl ⟨by rfl, ?_⟩) (by first | trivial | assumption) ?_
          rotate_left
          focus (intro w hSw; (try dsimp only at hSw); go_simp; (try with_reducible rfl))
          simp only [Act.put, List.setIfInBounds_toArray, List.set_cons_zero, List.set_cons_succ]
          refine take_to 5 (some 29) (v := ?_) rfl rfl (by kernel_rfl) (by kernel_rfl) (by kernel_rfl) (fun _ _ _ h => h) (Or.inl ⟨by rfl, ?_⟩) (by first | trivial | assumption) ?_
          rotate_left
          focus (intro w hSw; (try dsimp only at hSw); go_simp; (try with_reducible rfl))
          simp only [Act.put, List.setIfInBounds_toArray, List.set_cons_zero, List.set_cons_succ]
          refine take_to 6 (some 30) (v := ?_) rfl rfl (by kernel_rfl) (by kernel_rfl) (by kernel_rfl) (fun _ _ _ h => h) (Or.inl ⟨by rfl, ?_⟩) (by first | trivial | assumption) ?_
          rotate_left
          focus (intro w hSw; (try dsimp only at hSw); go_simp; (try with_reducible rfl))
          simp only [Act.put, List.setIfInBounds_toArray, List.set_cons_zero, List.set_cons_succ]
          refine take_to 7 (some 31) (v := ?_) rfl rfl (by kernel_rfl) (by kernel_rfl) (by kernel_rfl) (fun _ _ _ h => h) (Or.inl ⟨by rfl, ?_⟩) (by first | trivial | assumption) ?_
          rotate_left
          focus (intro w hSw; (try dsimp only at hSw); go_simp; (try with_reducible rfl))
          simp only [Act.put, List.setIfInBounds_toArray, List.set_cons_zero, List.set_cons_succ]
          refine take_to 8 (some 32) (v := ?_) rfl rfl (by kernel_rfl) (by kernel_rfl) (by kernel_rfl) (fun _ _ _ h => h) (Or.inl ⟨by rfl, ?_⟩) (by first | trivial | assumption) ?_
          rotate_left
          focus (intro w hSw; (try dsimp only at hSw); go_simp; (try with_reducible rfl))
          simp only [Act.put, List.setIfInBounds_toArray, List.set_cons_zero, List.set_cons_succ]
          refine take_to 9 (some 33) (v := ?_) rfl rfl (by kernel_rfl) (by kernel_rfl) (by kernel_rfl) (fun _ _ _ h => h) (Or.inl ⟨by rfl, ?_⟩) (by first | trivial | assumption) ?_
          rotate_left
          focus (intro w hSw; (try dsimp only at hSw); go_simp; (try with_reducible rfl))
          simp only [Act.put, List.setIfInBounds_toArray, List.set_cons_zero, List.set_cons_succ]
          refine wpAnyH_ready (rs := [3]) (by kernel_rfl) (by simp) ?_
          refine AllReadyH.cons rfl (fun K hK => ?_) AllReadyH.nil
          go_simp
          refine (HT.out _).mono ?_
          rintro e w2 ⟨rfl, b2⟩
          have hblk2 : w2.heap[g]? = some (.cells #[.int .i64 x.th, .int .i64 (m : Int)] 59 (0, 0)) := (b2.block g (by show g < W1.heap.size; omega)).trans HBLK.out
          have d0 := blk_cell hblk2 0 (by simp)
          have d1 := blk_cell hblk2 1 (by simp)
          simp only [List.getElem_toArray, List.getElem_cons_zero, List.getElem_cons_succ] at d0 d1
          have hown2 := own_below hown1.out (Nat.le_refl _) (show Below W1.heap.size W1 w2 from (below_drewN (Below.refl _ _) 1).trans b2)
          have hb2 := Lib.hid (nx hb1.out (show Below W1.heap.size W1 w2 from (below_drewN (Below.refl _ _) 1).trans b2))
          have HBLK2 := Lib.hid hblk2
          have hg2 : g < w2.heap.size := by have := b2.size; change W1.heap.size ≤ _ at this; omega
          clear hblk2 b2
          go_simp
          refine hK.out _ _ ⟨d0, d1⟩ (fun hHeld => ?_)
          refine take_to 10 (some 34) (v := ?_) rfl rfl (by kernel_rfl) (by kernel_rfl) (by kernel_rfl) (fun _ _ _ h => h) (Or.inl ⟨by rfl, ?_⟩) (by first | trivial | assumption) ?_
          rotate_left
          focus (intro w hSw; (try dsimp only at hSw); go_simp; (try with_reducible rfl))
          simp only [Act.put, List.setIfInBounds_toArray, List.set_cons_zero, List.set_cons_succ]
          refine wpAnyH_ready (rs := [11]) (by kernel_rfl) (by simp) ?_
          refine AllReadyH.cons rfl (fun K hK => ?_) AllReadyH.nil
          go_simp
          have hown3 := hown2.alloc (.cells #[.string (B t ++ ((⟨#[115, 108, 117, 114, 118]⟩ : ByteArray)).extract m (m + 1))] 9)
          have hblk3 := blk_alloc HBLK2.out (.cells #[.string (B t ++ ((⟨#[115, 108, 117, 114, 118]⟩ : ByteArray)).extract m (m + 1))] 9)
          have g0 := blk_cell hblk3 0 (by simp)
          have g1 := blk_cell hblk3 1 (by simp)
          simp only [List.getElem_toArray, List.getElem_cons_zero, List.getElem_cons_succ] at g0 g1
          refine hK.out _ _ ⟨g0, g1⟩ (fun hHeld => ?_)
          refine wpAnyH_ready (rs := [12]) (by kernel_rfl) (by simp) ?_
          refine AllReadyH.cons rfl (fun K hK => ?_) AllReadyH.nil
          refine wp_append1 (.tmp 24) (.tmp 35) 22 9 _ 1 16 rfl Tryd.underlying22 infoS rfl (by decide) w.heap.size w2 v k _ _ _ _ _ hown2 rfl rfl rfl rfl (by simp [Value.oneCell']) (by simp only [maxLen]; omega) (by omega) hb2.out.size (fun v' w4 hown4 hb4 hgr => ?_)
          have hblk4 : w4.heap[g]? = some (.cells #[.int .i64 x.th, .int .i64 (m : Int)] 59 (0, 0)) := (hgr.out.block g hg2 (fun e => HN.out g e.symm rfl)).trans HBLK2.out
          have k0 := blk_cell hblk4 0 (by simp)
          have k1 := blk_cell hblk4 1 (by simp)
          simp only [List.getElem_toArray, List.getElem_cons_zero, List.getElem_cons_succ] at k0 k1
          have HB4 := Lib.hid (hb2.out.trans hb4.out)
          have HE := Lib.hid (show ((ps.take (k + 1)).map wordP).map vS = (((ps.take k).map wordP).map vS) ++ [Value.string (B t ++ ((⟨#[115, 108, 117, 114, 118]⟩ : ByteArray)).extract m (m + 1))] by
            rw [HK.out, List.map_append, List.map_append, HX.out, app_B]
            show _ ++ [vS (wordP x)] = _
            rw [HWD.out])
          clear hb4 hgr hblk4
          simp only [Act.put, List.setIfInBounds_toArray, List.set_cons_zero, List.set_cons_succ]
          refine hK.out _ _ ⟨k0, k1⟩ (fun hHeld => ?_)
          refine take_to 13 (some 4) (v := ?_) rfl rfl (by kernel_rfl) (by kernel_rfl) (by kernel_rfl) (fun _ _ _ h => h) (Or.inl ⟨by rfl, ?_⟩) (by first | trivial | assumption) ?_
          rotate_left
          focus (intro w hSw; (try dsimp only at hSw); go_simp; (try with_reducible rfl))
          simp only [Act.put, List.setIfInBounds_toArray, List.set_cons_zero, List.set_cons_succ]
          refine wpAnyH_done (by kernel_rfl) ?_ _
          go_wp2_with fail
          go_roundw
          case rel => exact ⟨rfl, rfl, rfl, rfl, k + 1, v', rfl, by go_num, by omega, by rw [HE.out]; exact hown4.out, HB4.out, HG.out⟩
          case measure => simp [intOf]; omega
    · have HE := Lib.hid (show textP ps = (js (ps.map wordP), 0) from text_ok (fun p hp => hg p (by rw [List.take_of_length_le (by omega)]; exact hp)))
      obtain rfl : k = ps.length := by omega
      rw [List.take_length] at hown
      obtain ⟨A2, c2, rfl, hc2, _, hs2⟩ := own_slice hown
      have hl : (ps.map wordP).length = ps.length := List.length_map _
      have HJ := joins_any (ps.map wordP) A2 c2 w' (by rw [hl]; exact hc2) (by rw [hl]; omega) (by have := HZ.out; rw [List.take_length] at this; omega) hs2
      rw [hl] at HJ
      have HJ := Lib.hid HJ
      have HB := Lib.hid hbel
      clear hown hs2 hbel hg
      go_wp2_with fail
      refine HJ.out.mono ?_
      rintro e w1 ⟨rfl, hb1⟩
      have HB1 := Lib.hid (nx HB.out hb1)
      clear hb1
      go_wp2_with fail
      go_ret2
      exact ⟨by rw [HE.out]; rfl, HB1.out⟩
end Go.Proofs.YtcfdphfochfeoaaDoor.Pi
