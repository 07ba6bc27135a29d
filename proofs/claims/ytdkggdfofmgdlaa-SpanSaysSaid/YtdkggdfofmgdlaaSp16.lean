/- The walk of layer 22: Moves. -/
import Derived.Test.YtdkggdfofmgdlaaSp15
namespace Go.Proofs.Ytdkggdfofmgdlaa.Sp
open Go.RowKit
theorem frame84 {a : Act} (h : a.tmps.size = 84) (hd : a.defers = []) : ∃ u : Nat → Value, a = { tmps := #[u 0, u 1, u 2, u 3, u 4, u 5, u 6, u 7, u 8, u 9, u 10, u 11, u 12, u 13, u 14, u 15, u 16, u 17, u 18, u 19, u 20, u 21, u 22, u 23, u 24, u 25, u 26, u 27, u 28, u 29, u 30, u 31, u 32, u 33, u 34, u 35, u 36, u 37, u 38, u 39, u 40, u 41, u 42, u 43, u 44, u 45, u 46, u 47, u 48, u 49, u 50, u 51, u 52, u 53, u 54, u 55, u 56, u 57, u 58, u 59, u 60, u 61, u 62, u 63, u 64, u 65, u 66, u 67, u 68, u 69, u 70, u 71, u 72, u 73, u 74, u 75, u 76, u 77, u 78, u 79, u 80, u 81, u 82, u 83], defers := [] } ∧ ∀ n, a.tmps.getD n undef = u n := by
  refine ⟨fun n => a.tmps.getD n undef, ?_, fun _ => rfl⟩
  have h1 := arr_lit a.tmps h
  cases a with
  | mk t d =>
    simp only at hd h1
    subst hd
    congr 1
def M1 (l : List E) (out : List St) (within : Int) (A : Option Addr) (cap : Nat) (B : Option Addr) (cb ge gw : Nat) (W1 : World) (a : Act) (W : World) : Prop :=
  a.tmps.size = 84 ∧ a.defers = [] ∧ a.tmps.getD 0 undef = .int .i64 within ∧ a.tmps.getD 1 undef = .slice A l.length cap ∧ a.tmps.getD 5 undef = .slice (some ⟨ge, 0, none⟩) l.length l.length ∧ a.tmps.getD 6 undef = .slice (some ⟨gw, 0, none⟩) l.length l.length ∧ a.tmps.getD 21 undef = .slice B out.length cb ∧ a.tmps.getD 22 undef = .int .i64 (out.length : Int) ∧
    ∃ i : Nat, a.tmps.getD 23 undef = .int .i64 (i : Int) ∧ i ≤ out.length ∧ BRow W ge (entR out l.length i) ∧ BRow W gw (wtR out l.length i 0 0) ∧ Mod [ge, gw] W1 W
def M2 (l : List E) (out : List St) (within : Int) (A : Option Addr) (cap : Nat) (B : Option Addr) (cb ge gw i ask fin : Nat) (W1 : World) (a : Act) (W : World) : Prop :=
  a.tmps.size = 84 ∧ a.defers = [] ∧ a.tmps.getD 0 undef = .int .i64 within ∧ a.tmps.getD 1 undef = .slice A l.length cap ∧ a.tmps.getD 5 undef = .slice (some ⟨ge, 0, none⟩) l.length l.length ∧ a.tmps.getD 6 undef = .slice (some ⟨gw, 0, none⟩) l.length l.length ∧ a.tmps.getD 21 undef = .slice B out.length cb ∧ a.tmps.getD 22 undef = .int .i64 (out.length : Int) ∧ a.tmps.getD 23 undef = .int .i64 (i : Int) ∧ a.tmps.getD 9 undef = .int .i64 (fin : Int) ∧
    ∃ k : Nat, a.tmps.getD 10 undef = .int .i64 (k : Int) ∧ ask ≤ k ∧ k ≤ fin ∧ BRow W ge (entR out l.length (i + 1)) ∧ BRow W gw (wtR out l.length i ask k) ∧ Mod [ge, gw] W1 W
def M3 (l : List E) (out : List St) (within : Int) (A : Option Addr) (cap ge gw : Nat) (W1 : World) (a : Act) (W : World) : Prop :=
  a.tmps.size = 84 ∧ a.defers = [] ∧ a.tmps.getD 0 undef = .int .i64 within ∧ a.tmps.getD 1 undef = .slice A l.length cap ∧ a.tmps.getD 5 undef = .slice (some ⟨ge, 0, none⟩) l.length l.length ∧ a.tmps.getD 6 undef = .slice (some ⟨gw, 0, none⟩) l.length l.length ∧ W = W1 ∧
    ∃ (d : Nat) (at_ : Int), a.tmps.getD 11 undef = .int .i64 (nextE out l.length d : Int) ∧ a.tmps.getD 12 undef = .int .i64 at_ ∧ at_ = (l.length : Int) - 1 - (d : Int) ∧ d ≤ l.length ∧ Hid (∀ i, l.length - d ≤ i → i < l.length → badP out l.length within i = false)
theorem mod2 {ge gw : Nat} {a w : World} (h : Mod [ge, gw] a w) {i : Nat} (u : Value) : Mod [ge, gw] a (w.setCell ⟨ge, i, none⟩ u) ∧ Mod [ge, gw] a (w.setCell ⟨gw, i, none⟩ u) := ⟨h.setCell (by simp) u, h.setCell (by simp) u⟩
theorem down_succ {f : Nat → Bool} {n d p : Nat} (hp : p + d + 1 = n) (h : ∀ i, n - d ≤ i → i < n → f i = false) (hj : f p = false) : ∀ i, n - (d + 1) ≤ i → i < n → f i = false := fun i h1 h2 => by
  by_cases e : i = p
  · rw [e]; exact hj
  · exact h i (by omega) h2
set_option maxRecDepth 100000 in
set_option maxHeartbeats 4000000 in
theorem moves_any (l : List E) (within : Int) (A : Option Addr) (cap : Nat) (w : World) (hm : l.length ≤ 1000) (hwf : Wf l) (hs : Sl w w.heap.size A (l.flatMap dE)) :
    Calls Try.prog 11 #[.int .i64 within, .slice A l.length cap] w fun e w' => e = .returned (.bool (movesD (outP l l.length) l.length within)) ∧ Below w.heap.size w w' := by
  have HC := Lib.hid (fun W (h : Below w.heap.size w W) => of_any l A cap W hm hwf ((hs.below h).more h.size))
  have HOK := Lib.hid (outP_ok l)
  have hol := outP_len l l.length
  have hmk := make_b l.length hm
  have b1 : Below w.heap.size w (w.alloc (.cells (bv (List.replicate l.length false)) 4)) := below_new _ _
  have b2 : Below w.heap.size w ((w.alloc (.cells (bv (List.replicate l.length false)) 4)).alloc (.cells (bv (List.replicate l.length false)) 4)) := b1.alloc (by simp) _
  have HB2 := Lib.hid b2
  clear hs hwf b1 b2
  generalize outP l l.length = out at *
  go_enter Try.func11, Try.ntmps11
  go_wp2_with fail
  refine (HC.out _ HB2.out).mono ?_
  rintro e w1 ⟨B, cb, rfl, hown, hb⟩
  obtain ⟨W0, hW0⟩ : ∃ W0, W0 = ((w.alloc (.cells (bv (List.replicate l.length false)) 4)).alloc (.cells (bv (List.replicate l.length false)) 4)) := ⟨_, rfl⟩
  have hsz0 : W0.heap.size = w.heap.size + 2 := by rw [hW0]; simp
  rw [← hW0] at hown hb
  have hb0 : Below w.heap.size w W0 := by rw [hW0]; exact HB2.out
  have hg0 : W0.heap[w.heap.size]? = some (.cells (bv (List.replicate l.length false)) 4 (0, 0)) := by rw [hW0]; exact blk_alloc (blk_new _ _) _
  have hg1 : W0.heap[w.heap.size + 1]? = some (.cells (bv (List.replicate l.length false)) 4 (0, 0)) := by
    rw [hW0]
    have := blk_new (w.alloc (.cells (bv (List.replicate l.length false)) 4)) (.cells (bv (List.replicate l.length false)) 4)
    simpa using this
  have r0 : BRow w1 w.heap.size (entR out l.length 0) := by rw [entR_nil]; exact (hb.block _ (by omega)).trans hg0
  have r1 : BRow w1 (w.heap.size + 1) (wtR out l.length 0 0 0) := by rw [wtR_nil]; exact (hb.block _ (by omega)).trans hg1
  have hb1 := hb0.trans (hb.mono (by omega))
  have HB1 := Lib.hid hb1
  have hz1 := hb.size
  rw [hsz0] at hown hz1
  have HO := Lib.hid hown
  have HR0 := Lib.hid r0
  have HR1 := Lib.hid r1
  clear hW0 hsz0 hb0 hg0 hg1 hb hown r0 r1 hb1 HB2 HC hmk
  generalize hge : w.heap.size = ge at *
  generalize hgw : ge + 1 = gw at *
  have HNE := Lib.hid (show ge ≠ gw by omega)
  have HNE2 := Lib.hid (show gw ≠ ge by omega)
  have g1 : ge < gw := by omega
  have HO : Hid (w1.ownsRow (gw + 2) 38 7 (.slice B out.length cb) out.length (out.flatMap dSt)) := Lib.hid (by have := HO.out; rw [show gw + 2 = ge + 2 + 1 by omega]; exact this)
  have hz1 : gw < w1.heap.size := by omega
  have HGE := Lib.hid hge
  clear hge hgw
  go_wp2_with fail
  refine wp_loop (M1 l out within A cap B cb ge gw w1) (fun a' _ => out.length - (intOf (a'.tmps.getD 23 undef)).toNat) ?_ ?_
  · exact ⟨rfl, rfl, rfl, rfl, rfl, rfl, rfl, rfl, 0, rfl, Nat.zero_le _, HR0.out, HR1.out, Mod.refl _ _⟩
  · rintro a' W ⟨hsz, hdf, s0', s1', s5', s6', s21', s22', i, s23', hi, hE, hW, hM⟩
    have HE := Lib.hid hE
    have HW := Lib.hid hW
    have HM := Lib.hid hM
    have SL := own_sl7 (own_mod HO.out hM (by simp; omega))
    have hzW := hM.size
    have hgeW : ge < W.heap.size := by omega
    have hgwW : gw < W.heap.size := by omega
    clear hE hW hM
    obtain ⟨u, rfl, hu⟩ := frame84 hsz hdf
    rw [hu] at s0' s1' s5' s6' s21' s22' s23'
    simp only [s0', s1', s5', s6', s21', s22', s23']
    clear hsz hdf s0' s1' s5' s6' s21' s22' s23' hu
    by_cases hlt : i < out.length
    · obtain ⟨b, off, rfl, hbb, hcell⟩ := sl_st7 SL (by omega)
      obtain ⟨c0, c1, c2, c3, c4, c5, c6⟩ := hcell i hlt
      have i1 : (i : Int) < (out.length : Int) := by omega
      obtain ⟨⟨o1, o2, o3, o4⟩, o5⟩ := HOK.out _ (getD_mem hlt)
      obtain ⟨ask, hask⟩ := Int.eq_ofNat_of_zero_le o1
      have HNX := Lib.hid (fun k hk => wtR_next (n := l.length) (k := k) hlt hask hk)
      have HNO := Lib.hid (fun h => entR_no (n := l.length) hlt h)
      have HNS := Lib.hid (fun e h => entR_set (n := l.length) (e := e) hlt h)
      clear hcell SL
      generalize out.getD i s0 = st at *
      rw [hask] at c2 o2 o5
      clear hask o1
      by_cases h1 : st.en < 0
      · go_wp2_with fail
        refine wp_loop (M2 l out within A cap (some ⟨b, off, none⟩) cb ge gw i ask l.length w1) (fun a' _ => l.length - (intOf (a'.tmps.getD 10 undef)).toNat) ?_ ?_
        · exact ⟨rfl, rfl, rfl, rfl, rfl, rfl, rfl, rfl, rfl, rfl, ask, rfl, Nat.le_refl _, by omega, (by rw [HNO.out h1]; exact HE.out.alloc _), (by rw [wtR_any _ _ _ _ 0]; exact HW.out.alloc _), HM.out.alloc _⟩
        · rintro a' W4 ⟨hsz, hdf, s0', s1', s5', s6', s21', s22', s23', s9', k, s10', hk1, hk2, hE, hW, hM⟩
          obtain ⟨u, rfl, hu⟩ := frame84 hsz hdf
          rw [hu] at s0' s1' s5' s6' s21' s22' s23' s9' s10'
          simp only [s0', s1', s5', s6', s21', s22', s23', s9', s10']
          clear hsz hdf s0' s1' s5' s6' s21' s22' s23' s9' s10' hu
          have HE2 := Lib.hid hE
          have HW2 := Lib.hid hW
          have HM2 := Lib.hid hM
          by_cases hkl : k < l.length
          · have i2 : (k : Int) < (l.length : Int) := by omega
            have i3 : (k : Int) < (l.length : Int) := by omega
            have ck := hW.cell (i := k) (by rw [wtR_len]; omega)
            have fk := hW.free k
            clear hE hW hM
            go_wp2_with fail
            go_roundw
            case rel => exact ⟨rfl, rfl, rfl, rfl, rfl, rfl, rfl, rfl, rfl, rfl, k + 1, by go_num, by omega, by omega, HE2.out.other HNE.out _, (by rw [← wtR_set hk1]; exact HW2.out.set k true), (mod2 HM2.out _).2⟩
            case measure => simp [intOf] <;> omega
          · obtain rfl : l.length = k := by omega
            have i2 : ¬ (l.length : Int) < (l.length : Int) := by omega
            clear hE hW hM
            go_wp2_with fail
            go_roundw
            case rel => exact ⟨rfl, rfl, rfl, rfl, rfl, rfl, rfl, rfl, i + 1, by go_num, by omega, HE2.out, (by rw [← HNX.out l.length (.inl ⟨h1, rfl⟩)]; exact HW2.out), HM2.out⟩
            case measure => simp [intOf] <;> omega
      · obtain ⟨en, hen⟩ := Int.eq_ofNat_of_zero_le (show 0 ≤ st.en by omega)
        have HEN := Lib.hid hen
        rw [hen] at c3 o4 o5 h1
        have hen0 : (0 : Int) ≤ (en : Int) := by omega
        have hel : (en : Int) < (l.length : Int) := by omega
        have ce := HE.out.cell (i := en) (by rw [entR_len]; omega)
        have fe := HE.out.free en
        clear hen h1
        generalize st.en = sten at *
        go_wp2_with fail
        refine wp_loop (M2 l out within A cap (some ⟨b, off, none⟩) cb ge gw i ask en w1) (fun a' _ => l.length - (intOf (a'.tmps.getD 10 undef)).toNat) ?_ ?_
        · exact ⟨rfl, rfl, rfl, rfl, rfl, rfl, rfl, rfl, rfl, rfl, ask, rfl, Nat.le_refl _, by omega, (by rw [← HNS.out en HEN.out]; exact (HE.out.set en true).alloc _), (by rw [wtR_any _ _ _ _ 0]; exact (HW.out.other HNE2.out _).alloc _), (mod2 HM.out _).1.alloc _⟩
        · rintro a' W4 ⟨hsz, hdf, s0', s1', s5', s6', s21', s22', s23', s9', k, s10', hk1, hk2, hE, hW, hM⟩
          obtain ⟨u, rfl, hu⟩ := frame84 hsz hdf
          rw [hu] at s0' s1' s5' s6' s21' s22' s23' s9' s10'
          simp only [s0', s1', s5', s6', s21', s22', s23', s9', s10']
          clear hsz hdf s0' s1' s5' s6' s21' s22' s23' s9' s10' hu
          have HE2 := Lib.hid hE
          have HW2 := Lib.hid hW
          have HM2 := Lib.hid hM
          by_cases hkl : k < en
          · have i2 : (k : Int) < (en : Int) := by omega
            have i3 : (k : Int) < (l.length : Int) := by omega
            have ck := hW.cell (i := k) (by rw [wtR_len]; omega)
            have fk := hW.free k
            clear hE hW hM
            go_wp2_with fail
            go_roundw
            case rel => exact ⟨rfl, rfl, rfl, rfl, rfl, rfl, rfl, rfl, rfl, rfl, k + 1, by go_num, by omega, by omega, HE2.out.other HNE.out _, (by rw [← wtR_set hk1]; exact HW2.out.set k true), (mod2 HM2.out _).2⟩
            case measure => simp [intOf] <;> omega
          · obtain rfl : en = k := by omega
            have i2 : ¬ (en : Int) < (en : Int) := by omega
            clear hE hW hM
            go_wp2_with fail
            go_roundw
            case rel => exact ⟨rfl, rfl, rfl, rfl, rfl, rfl, rfl, rfl, i + 1, by go_num, by omega, HE2.out, (by rw [← HNX.out en (.inr HEN.out)]; exact HW2.out), HM2.out⟩
            case measure => simp [intOf] <;> omega
    · obtain rfl : i = out.length := by omega
      have i1 : ¬ (out.length : Int) < (out.length : Int) := by omega
      have w5 : IntKind.i64.wrap ((l.length : Int) - 1) = (l.length : Int) - 1 := IntWalk.i64_in _ (by omega)
      go_wp2_with fail
      refine wp_loop (M3 l out within A cap ge gw W) (fun a' _ => ((intOf (a'.tmps.getD 12 undef)) + 1).toNat) ?_ ?_
      · exact ⟨rfl, rfl, rfl, rfl, rfl, rfl, rfl, 0, _, rfl, rfl, by omega, Nat.zero_le _, Lib.hid (fun i h1 h2 => by omega)⟩
      · rintro a' W4 ⟨hsz, hdf, s0', s1', s5', s6', rfl, d, at_, s11', s12', hat, hd, HA⟩
        obtain ⟨u, rfl, hu⟩ := frame84 hsz hdf
        rw [hu] at s0' s1' s5' s6' s11' s12'
        simp only [s0', s1', s5', s6', s11', s12']
        clear hsz hdf s0' s1' s5' s6' s11' s12' hu
        by_cases hdl : d < l.length
        · obtain ⟨p, hp⟩ : ∃ p, p + d + 1 = l.length := ⟨l.length - 1 - d, by omega⟩
          obtain rfl : at_ = (p : Int) := by omega
          have cw := HW.out.cell (i := p) (by rw [wtR_len]; omega)
          have ce := HE.out.cell (i := p) (by rw [entR_len]; omega)
          rw [wtR_at (by omega)] at cw
          rw [entR_at (by omega)] at ce
          have hnx := nextE_le out l.length d
          have HST := Lib.hid (nextE_step (out := out) hdl hp)
          have HBP := Lib.hid (badP_at (out := out) (within := within) hp)
          generalize nextE out l.length d = nx at *
          have w4 : IntKind.i64.wrap ((nx : Int) - (p : Int)) = (nx : Int) - (p : Int) := IntWalk.i64_in _ (by omega)
          have w6 : IntKind.i64.wrap ((l.length : Int) - 1 - (p : Int)) = (l.length : Int) - 1 - (p : Int) := IntWalk.i64_in _ (by omega)
          have w7 : IntKind.i64.wrap ((p : Int) - 1) = (p : Int) - 1 := IntWalk.i64_in _ (by omega)
          have i0 : (0 : Int) ≤ (p : Int) := by omega
          have i1 : (p : Int) < (l.length : Int) := by omega
          clear hat
          cases hw : wtD out p with
          | false =>
            rw [hw] at cw HBP
            have HBD := Lib.hid (show badP out l.length within p = false by rw [HBP.out]; rfl)
            clear hw
            cases he : entD out p with
            | false =>
              rw [he] at ce
              have HN1 := Lib.hid (HST.out.trans (if_neg (by rw [he]; simp)))
              clear he
              go_wp2_with fail
              go_roundw
              case rel => exact ⟨rfl, rfl, rfl, rfl, rfl, rfl, rfl, d + 1, (p : Int) - 1, by rw [HN1.out] <;> rfl, rfl, by omega, by omega, Lib.hid (down_succ hp HA.out HBD.out)⟩
              case measure => simp [intOf] <;> omega
            | true =>
              rw [he] at ce
              have HN1 := Lib.hid (HST.out.trans (if_pos he))
              clear he
              go_wp2_with fail
              go_roundw
              case rel => exact ⟨rfl, rfl, rfl, rfl, rfl, rfl, rfl, d + 1, (p : Int) - 1, by rw [HN1.out] <;> rfl, rfl, by omega, by omega, Lib.hid (down_succ hp HA.out HBD.out)⟩
              case measure => simp [intOf] <;> omega
          | true =>
            rw [hw] at cw HBP
            clear hw
            by_cases h2 : within < (nx : Int) - (p : Int)
            · by_cases h3 : within ≤ (l.length : Int) - 1 - (p : Int)
              · have HBD := Lib.hid (moves_noP (by omega : p < l.length) (show badP out l.length within p = true by rw [HBP.out, decide_eq_true h2, decide_eq_true h3]; rfl))
                go_wp2_with fail
                go_ret
                exact ⟨by rw [HBD.out]; rfl, by rw [HGE.out]; exact Mod.below_of HB1.out HM.out (by omega) (by simp; omega)⟩
              · have HBD := Lib.hid (show badP out l.length within p = false by rw [HBP.out, decide_eq_false h3, Bool.and_false])
                cases he : entD out p with
                | false =>
                  rw [he] at ce
                  have HN1 := Lib.hid (HST.out.trans (if_neg (by rw [he]; simp)))
                  clear he
                  go_wp2_with fail
                  go_roundw
                  case rel => exact ⟨rfl, rfl, rfl, rfl, rfl, rfl, rfl, d + 1, (p : Int) - 1, by rw [HN1.out] <;> rfl, rfl, by omega, by omega, Lib.hid (down_succ hp HA.out HBD.out)⟩
                  case measure => simp [intOf] <;> omega
                | true =>
                  rw [he] at ce
                  have HN1 := Lib.hid (HST.out.trans (if_pos he))
                  clear he
                  go_wp2_with fail
                  go_roundw
                  case rel => exact ⟨rfl, rfl, rfl, rfl, rfl, rfl, rfl, d + 1, (p : Int) - 1, by rw [HN1.out] <;> rfl, rfl, by omega, by omega, Lib.hid (down_succ hp HA.out HBD.out)⟩
                  case measure => simp [intOf] <;> omega
            · have HBD := Lib.hid (show badP out l.length within p = false by rw [HBP.out, decide_eq_false h2, Bool.and_false, Bool.false_and])
              cases he : entD out p with
              | false =>
                rw [he] at ce
                have HN1 := Lib.hid (HST.out.trans (if_neg (by rw [he]; simp)))
                clear he
                go_wp2_with fail
                go_roundw
                case rel => exact ⟨rfl, rfl, rfl, rfl, rfl, rfl, rfl, d + 1, (p : Int) - 1, by rw [HN1.out] <;> rfl, rfl, by omega, by omega, Lib.hid (down_succ hp HA.out HBD.out)⟩
                case measure => simp [intOf] <;> omega
              | true =>
                rw [he] at ce
                have HN1 := Lib.hid (HST.out.trans (if_pos he))
                clear he
                go_wp2_with fail
                go_roundw
                case rel => exact ⟨rfl, rfl, rfl, rfl, rfl, rfl, rfl, d + 1, (p : Int) - 1, by rw [HN1.out] <;> rfl, rfl, by omega, by omega, Lib.hid (down_succ hp HA.out HBD.out)⟩
                case measure => simp [intOf] <;> omega
        · obtain rfl : d = l.length := by omega
          obtain rfl : at_ = -1 := by omega
          have HN := Lib.hid (moves_yesP (out := out) (n := l.length) (within := within) (fun i h => HA.out i (by omega) h))
          go_wp2_with fail
          go_ret
          exact ⟨by rw [HN.out]; rfl, by rw [HGE.out]; exact Mod.below_of HB1.out HM.out (by omega) (by simp; omega)⟩
end Go.Proofs.Ytdkggdfofmgdlaa.Sp
