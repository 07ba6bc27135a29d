/- Walks of events: the texts. -/
import Derived.Test.YtcfdphfochfeoaaDoorTr2
namespace Go.Proofs.YtcfdphfochfeoaaDoor.Tr
open Go.RowKit Go.Proofs.YtcfdphfochfeoaaDoor.Li Go.Proofs.YtcfdphfochfeoaaDoor.De Go.Proofs.YtcfdphfochfeoaaDoor.Ara
open Go.Proofs.YtcfdphfochfeoaaDoor.Pi (add_any size_app joins_any js js_snoc)

theorem frame29 {a : Act} (h : a.tmps.size = 29) (hd : a.defers = []) : ∃ u : Nat → Value, a = { tmps := #[u 0, u 1, u 2, u 3, u 4, u 5, u 6, u 7, u 8, u 9, u 10, u 11, u 12, u 13, u 14, u 15, u 16, u 17, u 18, u 19, u 20, u 21, u 22, u 23, u 24, u 25, u 26, u 27, u 28], defers := [] } ∧ ∀ n, a.tmps.getD n undef = u n := by
  refine ⟨fun n => a.tmps.getD n undef, ?_, fun _ => rfl⟩
  have h1 := arr_lit a.tmps h
  cases a with
  | mk t d =>
    simp only at hd h1
    subst hd
    congr 1
def PtJ (ps : List Ev) (w0 : World) (A : Option Addr) (cap : Nat) (a : Act) (w' : World) : Prop :=
  a.tmps.size = 29 ∧ a.defers = [] ∧ a.tmps.getD 7 undef = .slice A ps.length cap ∧ a.tmps.getD 8 undef = .int .i64 (ps.length : Int) ∧ ∃ (k : Nat) (v : Value), a.tmps.getD 4 undef = v ∧ a.tmps.getD 9 undef = .int .i64 (k : Int) ∧ k ≤ ps.length ∧
    w'.ownsRow w0.heap.size 9 1 v k (((ps.take k).map wordE).map vS) ∧ Below w0.heap.size w0 w' ∧ (∀ p ∈ ps.take k, goodE p = true)
set_option maxRecDepth 100000 in
set_option maxHeartbeats 4000000 in
theorem text_any (ps : List Ev) (A : Option Addr) (cap : Nat) (w : World) (hm : ps.length ≤ 1000) (h64 : ∀ p ∈ ps, okE p) (hs : Sl w w.heap.size A (ps.flatMap dE)) :
    Calls Tryd.prog 52 #[.slice A ps.length cap] w fun e w' => e = .returned (.tuple #[vS (textE ps).1, .int .i64 (textE ps).2]) ∧ Below w.heap.size w w' := by
  have HZ := Lib.hid (js_le ps h64 ps.length)
  go_enter Tryd.func52, Tryd.ntmps52
  go_wp2_with fail
  refine wp_loop (PtJ ps w A cap) (fun a' _ => ps.length - (intOf (a'.tmps.getD 9 undef)).toNat) ?_ ?_
  · exact ⟨rfl, rfl, rfl, rfl, 0, _, rfl, rfl, Nat.zero_le _, World.ownsRow_nil _ _ _ _, Below.refl _ _, by simp⟩
  · rintro a' w' ⟨hsz, hdf, s7, s8, k, v, s4, s9, hk, hown, hbel, hg⟩
    obtain ⟨u, rfl, hu⟩ := frame29 hsz hdf
    rw [hu] at s4 s7 s8 s9
    simp only [s4, s7, s8, s9]
    clear hsz hdf s4 s7 s8 s9 hu
    by_cases hlt : k < ps.length
    · obtain ⟨b, off, rfl, hbb, hcell⟩ := sl_ev (hs.below hbel) hlt
      obtain ⟨h0, h1, h2, h3⟩ := hcell k hlt
      have hbx := h64 ps[k] (List.getElem_mem hlt)
      have HBAD := Lib.hid (fun h => text_bad hlt (good_no h))
      have HG := Lib.hid (fun h => good_take hlt hg h)
      have HK := Lib.hid (List.take_succ_eq_append_getElem hlt)
      have i1 : (k : Int) < (ps.length : Int) := by omega
      have HB := Lib.hid hbel
      have hwq := hbel.size
      have HO := Lib.hid hown
      clear hcell hbel hown h64 hg hs
      generalize ps[k] = x at *
      by_cases hneg : x.kind < 0
      · have HE := Lib.hid (HBAD.out (.inl hneg))
        go_wp2_with fail
        go_ret2
        exact ⟨by rw [HE.out]; rfl, HB.out.alloc hwq _⟩
      · by_cases hbig : 6 ≤ x.kind
        · have HE := Lib.hid (HBAD.out (.inr (by omega)))
          go_wp2_with fail
          go_ret2
          exact ⟨by rw [HE.out]; rfl, HB.out.alloc hwq _⟩
        · have hgd : goodE x = true := (good_iff x).2 ⟨by omega, by omega⟩
          have HG := Lib.hid (HG.out hgd)
          have HW := Lib.hid (fun W => word_any x hbx hgd W)
          have hown1 := Lib.hid (HO.out.alloc (.cells #[.int .i64 x.kind, .int .i64 x.th, .bool x.rd, .int .i64 x.ct] 105))
          have hb1 := Lib.hid (HB.out.alloc HB.out.size (.cells #[.int .i64 x.kind, .int .i64 x.th, .bool x.rd, .int .i64 x.ct] 105))
          clear HBAD
          go_wp2_with fail
          refine (HW.out _).mono ?_
          rintro e w2 ⟨rfl, b2⟩
          have hown2 := own_below hown1.out (Nat.le_refl _) b2
          have HB2 := Lib.hid (nx hb1.out b2)
          have hwq2 := HB2.out.size
          clear b2
          go_wp2_with (at_builtin; refine wpList_append1 (.tmp 21) (.tmp 24) 22 9 _ 1 16 rfl rfl Tryd.underlying22 infoS rfl (by decide) w.heap.size _ _ _ _ _ _ _ _ hown2 rfl rfl ?cge rfl ?d1e ?d2e ?d3e ?d4e ?cke; case' cke => intro v' w3 hown3 hb3 _)
          case cge => first | rfl | simp
          case d1e => simp [Value.oneCell']
          case d2e => simp only [maxLen]; omega
          case d3e => omega
          try (case d4e => omega)
          go_wp2_with fail
          go_roundw
          case rel => exact ⟨rfl, rfl, rfl, rfl, k + 1, v', rfl, by go_num, by omega, by rw [HK.out]; simpa using hown3, HB2.out.trans hb3, HG.out⟩
          case measure => simp [intOf]; omega
    · have HE := Lib.hid (show textE ps = (js (ps.map wordE), 0) from text_ok (fun p hp => hg p (by rw [List.take_of_length_le (by omega)]; exact hp)))
      obtain rfl : k = ps.length := by omega
      rw [List.take_length] at hown
      obtain ⟨A2, c2, rfl, hc2, _, hs2⟩ := own_slice hown
      have hl : (ps.map wordE).length = ps.length := List.length_map _
      have HJ := joins_any (ps.map wordE) A2 c2 w' (by rw [hl]; exact hc2) (by rw [hl]; omega) (by have := HZ.out; rw [List.take_length] at this; omega) hs2
      rw [hl] at HJ
      have HJ := Lib.hid HJ
      have HB := Lib.hid hbel
      clear hown hs2 hbel hg
      go_wp2_with fail
      refine HJ.out.mono ?_
      rintro e w1 ⟨rfl, hb1⟩
      have HB1 := Lib.hid (nx HB.out hb1)
      clear hb1
      go_wp2_with fail
      go_ret2
      exact ⟨by rw [HE.out]; rfl, HB1.out⟩
set_option maxRecDepth 100000 in
set_option maxHeartbeats 8000000 in
theorem rtext_any (ps : List Ev) (A : Option Addr) (cap : Nat) (w : World) (hm : ps.length ≤ 1000) (h64 : ∀ p ∈ ps, okE p) (hs : Sl w w.heap.size A (ps.flatMap dE)) :
    Calls Tryd.prog 53 #[.slice A ps.length cap] w fun e w' => e = .returned (.tuple #[vS (textE ps).1, .int .i64 (textE ps).2]) ∧ ∃ q, w' = w.drewN q := by
  go_enter Tryd.func53, Tryd.ntmps53
  go_wp2_with fail
  go_loopw [4, 5] (fun s i wr => ∃ k : Nat, k ≤ ps.length ∧ i = .int .i64 (k : Int) ∧ s = vS (js ((ps.take k).map wordE)) ∧ (∀ p ∈ ps.take k, goodE p = true) ∧ ∃ q, wr = w.drewN q) (fun _ i _ => ps.length - (intOf i).toNat)
  case atStart => exact ⟨0, Nat.zero_le _, rfl, rfl, by simp, 0, rfl⟩
  case round =>
    obtain ⟨k, hk, rfl, rfl, hg, q, rfl⟩ := hrel
    by_cases hlt : k < ps.length
    · obtain ⟨b, off, rfl, hbb, hcell⟩ := sl_ev hs hlt
      obtain ⟨h0', h1', h2', h3'⟩ := hcell k hlt
      have h0 : (w.drewN q).cell? ⟨b, off + k * 4, none⟩ = _ := h0'
      have h1 : (w.drewN q).cell? ⟨b, off + k * 4 + 1, none⟩ = _ := h1'
      have h2 : (w.drewN q).cell? ⟨b, off + k * 4 + 2, none⟩ = _ := h2'
      have h3 : (w.drewN q).cell? ⟨b, off + k * 4 + 3, none⟩ = _ := h3'
      have hbx := h64 ps[k] (List.getElem_mem hlt)
      have HBAD := Lib.hid (fun h => text_bad hlt (good_no h))
      have HG := Lib.hid (fun h => good_take hlt hg h)
      have hL := js_le ps h64 k
      have HJ := Lib.hid (js_step ps hlt)
      have i1 : (k : Int) < (ps.length : Int) := by omega
      clear hcell h0' h1' h2' h3' h64 hg hs
      generalize hw1 : w.drewN q = w1 at *
      have HW1 := Lib.hid hw1
      clear hw1
      generalize ps[k] = x at *
      by_cases hneg : x.kind < 0
      · have HE := Lib.hid (HBAD.out (.inl hneg))
        go_wp2_with fail
        go_ret2
        exact ⟨by rw [HE.out]; rfl, q, HW1.out.symm⟩
      · by_cases hbig : 5 < x.kind
        · have HE := Lib.hid (HBAD.out (.inr hbig))
          go_wp2_with fail
          go_ret2
          exact ⟨by rw [HE.out]; rfl, q, HW1.out.symm⟩
        · have hgd : goodE x = true := (good_iff x).2 ⟨by omega, by omega⟩
          have HG := Lib.hid (HG.out hgd)
          obtain ⟨m, hm0⟩ := Int.eq_ofNat_of_zero_le (show 0 ≤ x.kind by omega)
          have HWD := Lib.hid (show wordE x = (lets.getD m 0 :: txt x.th) ++ ((if x.rd = true then [39] else []) ++ (if x.ct = 0 then [] else 47 :: txt x.ct)) by unfold wordE tailE; rw [hm0]; rfl)
          rw [hm0] at h0 hneg hbig
          have HT := Lib.hid (rtxt_any _ x.th (Nat.le_refl _) hbx.2.1)
          have HC := Lib.hid (rtxt_any _ x.ct (Nat.le_refl _) hbx.2.2)
          have hxs : (((⟨#[110, 97, 101, 120, 114, 98]⟩ : ByteArray)).extract m (m + 1)).size = 1 := by rw [let_ext m (by omega)]; rfl
          have hX := txt_len hbx.2.1
          have hY := txt_len hbx.2.2
          have i4 : (0 : Int) ≤ (m : Int) := by omega
          have i5 : ¬ (m : Int) < 0 := by omega
          have i6 : ¬ 5 < (m : Int) := by omega
          have i7 : (m : Int) ≤ 5 := by omega
          have i8 : (m : Int) + 1 ≤ 6 := by omega
          clear hm0 HBAD hgd
          by_cases hk0 : k = 0
          · obtain ⟨Z, hZ⟩ : ∃ Z : List UInt8, Z = [] := ⟨_, rfl⟩
            have HE := Lib.hid (show js ((ps.take (k + 1)).map wordE) = (Z ++ (lets.getD m 0 :: txt x.th)) ++ ((if x.rd = true then [39] else []) ++ (if x.ct = 0 then [] else 47 :: txt x.ct)) by rw [HJ.out, if_pos hk0, HWD.out, hZ]; rfl)
            have hje : js ((ps.take k).map wordE) = Z := by rw [hk0, hZ]; rfl
            have i9 : ¬ (0 : Int) < (k : Int) := by omega
            have hL2 : Z.length ≤ 44001 := by rw [hZ]; simp
            clear HJ HWD hL hk0 hZ
            rw [hje]
            clear hje
            go_wp2_with fail
            have HXX := Lib.hid (show B (Z) ++ ((⟨#[110, 97, 101, 120, 114, 98]⟩ : ByteArray)).extract m (m + 1) ++ B (txt x.th) = B (Z ++ (lets.getD m 0 :: txt x.th)) by rw [let_ext m (by omega), app_B, app_B, List.append_assoc]; rfl)
            have hsP := size_B (Z)
            have hsT := size_B (txt x.th)
            have ad1 := add_any (B (Z)) (((⟨#[110, 97, 101, 120, 114, 98]⟩ : ByteArray)).extract m (m + 1)) (by rw [hsP, hxs]; omega)
            have ad2 := add_any (B (Z) ++ ((⟨#[110, 97, 101, 120, 114, 98]⟩ : ByteArray)).extract m (m + 1)) (B (txt x.th)) (by rw [size_app, hsP, hxs, hsT]; omega)
            have HQL := Lib.hid (show (Z ++ (lets.getD m 0 :: txt x.th)).length ≤ 50000 by rw [List.length_append, List.length_cons]; omega)
            clear hsP hsT hxs
            generalize Z ++ (lets.getD m 0 :: txt x.th) = Q0 at *
            generalize hPP : Z = P0 at *
            clear hPP
            generalize txt x.th = t at *
            generalize txt x.ct = tc at *
            go_quiet ((go_at_call 34; exact Calls.quiet_of_same (HT.out _)))
            have HW2 := Lib.hid (show w1.drewN nq = w.drewN (q + nq) by rw [← HW1.out, World.drewN_drewN])
            have c2 : (w1.drewN nq).cell? ⟨b, off + k * 4 + 2, none⟩ = _ := h2
            have c3 : (w1.drewN nq).cell? ⟨b, off + k * 4 + 3, none⟩ = _ := h3
            generalize w1.drewN nq = W2 at *
            simp only [HXX.out]
            have hq5 := HQL.out
            have n1 : ¬ 9223372036854775807 < Q0.length + 1 := by omega
            have n2 : ¬ 9223372036854775807 < Q0.length + 1 + tc.length := by omega
            have n3 : ¬ 9223372036854775807 < Q0.length + 1 + 1 := by omega
            have n4 : ¬ 9223372036854775807 < Q0.length + 1 + 1 + tc.length := by omega
            clear ad1 ad2 HXX h0 h1 h2 h3
            by_cases hz : x.ct = 0
            · have qz := ibne_no hz
              rw [if_pos hz] at HE
              clear hz
              cases hrd : x.rd with
              | true =>
                rw [hrd] at HE c2
                go_wp2_with fail
                go_roundw
                case rel => exact ⟨k + 1, by omega, by go_num, by rw [HE.out]; simp only [if_true, List.append_nil]; show _ = Value.string (B _); rw [← app39], HG.out, _, HW2.out⟩
                case measure => simp [intOf]; omega
              | false =>
                rw [hrd] at HE c2
                go_wp2_with fail
                go_roundw
                case rel => exact ⟨k + 1, by omega, by go_num, by rw [HE.out]; simp only [Bool.false_eq_true, if_false, List.append_nil], HG.out, _, HW2.out⟩
                case measure => simp [intOf]; omega
            · have qz := ibne hz
              rw [if_neg hz] at HE
              clear hz
              cases hrd : x.rd with
              | true =>
                rw [hrd] at HE c2
                go_wp2_with fail
                refine (HC.out _).mono ?_
                rintro e wx ⟨rfl, hwx⟩
                obtain rfl := hwx.symm
                go_wp2_with fail
                go_roundw
                case rel => exact ⟨k + 1, by omega, by go_num, by rw [HE.out]; simp only [if_true]; show _ = Value.string (B (Q0 ++ ([39] ++ ([47] ++ tc)))); rw [← app_B, ← app_B, ← app_B]; exact congrArg Value.string (by apply L_inj; simp [L]), HG.out, _, HW2.out⟩
                case measure => simp [intOf]; omega
              | false =>
                rw [hrd] at HE c2
                go_wp2_with fail
                refine (HC.out _).mono ?_
                rintro e wx ⟨rfl, hwx⟩
                obtain rfl := hwx.symm
                go_wp2_with fail
                go_roundw
                case rel => exact ⟨k + 1, by omega, by go_num, by rw [HE.out]; simp only [Bool.false_eq_true, if_false, List.nil_append]; show _ = Value.string (B (Q0 ++ ([47] ++ tc))); rw [← app_B, ← app_B]; exact congrArg Value.string (by apply L_inj; simp [L]), HG.out, _, HW2.out⟩
                case measure => simp [intOf]; omega
          · have HE := Lib.hid (show js ((ps.take (k + 1)).map wordE) = ((js ((ps.take k).map wordE) ++ [32]) ++ (lets.getD m 0 :: txt x.th)) ++ ((if x.rd = true then [39] else []) ++ (if x.ct = 0 then [] else 47 :: txt x.ct)) by rw [HJ.out, if_neg hk0, HWD.out]; simp only [List.append_assoc])
            have i9 : (0 : Int) < (k : Int) := by omega
            generalize js ((ps.take k).map wordE) = S at *
            have n0 : ¬ 9223372036854775807 < S.length + 1 := by omega
            have HS32 := Lib.hid (show B S ++ (⟨#[32]⟩ : ByteArray) = B (S ++ [32]) from app_B S [32])
            have hL2 : (S ++ [32]).length ≤ 44001 := by rw [List.length_append]; simp; omega
            clear HJ HWD hk0
            go_wp2_with fail
            simp only [HS32.out]
            have HXX := Lib.hid (show B ((S ++ [32])) ++ ((⟨#[110, 97, 101, 120, 114, 98]⟩ : ByteArray)).extract m (m + 1) ++ B (txt x.th) = B ((S ++ [32]) ++ (lets.getD m 0 :: txt x.th)) by rw [let_ext m (by omega), app_B, app_B, List.append_assoc]; rfl)
            have hsP := size_B ((S ++ [32]))
            have hsT := size_B (txt x.th)
            have ad1 := add_any (B ((S ++ [32]))) (((⟨#[110, 97, 101, 120, 114, 98]⟩ : ByteArray)).extract m (m + 1)) (by rw [hsP, hxs]; omega)
            have ad2 := add_any (B ((S ++ [32])) ++ ((⟨#[110, 97, 101, 120, 114, 98]⟩ : ByteArray)).extract m (m + 1)) (B (txt x.th)) (by rw [size_app, hsP, hxs, hsT]; omega)
            have HQL := Lib.hid (show ((S ++ [32]) ++ (lets.getD m 0 :: txt x.th)).length ≤ 50000 by rw [List.length_append, List.length_cons]; omega)
            clear hsP hsT hxs
            generalize (S ++ [32]) ++ (lets.getD m 0 :: txt x.th) = Q0 at *
            generalize hPP : (S ++ [32]) = P0 at *
            clear hPP
            generalize txt x.th = t at *
            generalize txt x.ct = tc at *
            go_quiet ((go_at_call 34; exact Calls.quiet_of_same (HT.out _)))
            have HW2 := Lib.hid (show w1.drewN nq = w.drewN (q + nq) by rw [← HW1.out, World.drewN_drewN])
            have c2 : (w1.drewN nq).cell? ⟨b, off + k * 4 + 2, none⟩ = _ := h2
            have c3 : (w1.drewN nq).cell? ⟨b, off + k * 4 + 3, none⟩ = _ := h3
            generalize w1.drewN nq = W2 at *
            simp only [HXX.out]
            have hq5 := HQL.out
            have n1 : ¬ 9223372036854775807 < Q0.length + 1 := by omega
            have n2 : ¬ 9223372036854775807 < Q0.length + 1 + tc.length := by omega
            have n3 : ¬ 9223372036854775807 < Q0.length + 1 + 1 := by omega
            have n4 : ¬ 9223372036854775807 < Q0.length + 1 + 1 + tc.length := by omega
            clear ad1 ad2 HXX h0 h1 h2 h3
            by_cases hz : x.ct = 0
            · have qz := ibne_no hz
              rw [if_pos hz] at HE
              clear hz
              cases hrd : x.rd with
              | true =>
                rw [hrd] at HE c2
                go_wp2_with fail
                go_roundw
                case rel => exact ⟨k + 1, by omega, by go_num, by rw [HE.out]; simp only [if_true, List.append_nil]; show _ = Value.string (B _); rw [← app39], HG.out, _, HW2.out⟩
                case measure => simp [intOf]; omega
              | false =>
                rw [hrd] at HE c2
                go_wp2_with fail
                go_roundw
                case rel => exact ⟨k + 1, by omega, by go_num, by rw [HE.out]; simp only [Bool.false_eq_true, if_false, List.append_nil], HG.out, _, HW2.out⟩
                case measure => simp [intOf]; omega
            · have qz := ibne hz
              rw [if_neg hz] at HE
              clear hz
              cases hrd : x.rd with
              | true =>
                rw [hrd] at HE c2
                go_wp2_with fail
                refine (HC.out _).mono ?_
                rintro e wx ⟨rfl, hwx⟩
                obtain rfl := hwx.symm
                go_wp2_with fail
                go_roundw
                case rel => exact ⟨k + 1, by omega, by go_num, by rw [HE.out]; simp only [if_true]; show _ = Value.string (B (Q0 ++ ([39] ++ ([47] ++ tc)))); rw [← app_B, ← app_B, ← app_B]; exact congrArg Value.string (by apply L_inj; simp [L]), HG.out, _, HW2.out⟩
                case measure => simp [intOf]; omega
              | false =>
                rw [hrd] at HE c2
                go_wp2_with fail
                refine (HC.out _).mono ?_
                rintro e wx ⟨rfl, hwx⟩
                obtain rfl := hwx.symm
                go_wp2_with fail
                go_roundw
                case rel => exact ⟨k + 1, by omega, by go_num, by rw [HE.out]; simp only [Bool.false_eq_true, if_false, List.nil_append]; show _ = Value.string (B (Q0 ++ ([47] ++ tc))); rw [← app_B, ← app_B]; exact congrArg Value.string (by apply L_inj; simp [L]), HG.out, _, HW2.out⟩
                case measure => simp [intOf]; omega
    · have HE := Lib.hid (show textE ps = (js (ps.map wordE), 0) from text_ok (fun p hp => hg p (by rw [List.take_of_length_le (by omega)]; exact hp)))
      obtain rfl : k = ps.length := by omega
      rw [List.take_length]
      clear hg
      go_wp2_with fail
      go_ret2
      exact ⟨by rw [HE.out]; rfl, q, rfl⟩
end Go.Proofs.YtcfdphfochfeoaaDoor.Tr
