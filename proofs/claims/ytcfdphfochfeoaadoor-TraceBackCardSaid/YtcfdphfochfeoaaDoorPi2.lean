/- Walks of picks: threads, the text of the reference, one word. -/
import Derived.Test.YtcfdphfochfeoaaDoorPi1
import Derived.Test.YtcfdphfochfeoaaDoorReg
import Derived.Laws.ResultCell
namespace Go.Proofs.YtcfdphfochfeoaaDoor.Pi
open Go.RowKit Go.Proofs.YtcfdphfochfeoaaDoor.Li Go.Proofs.YtcfdphfochfeoaaDoor.De Go.Proofs.YtcfdphfochfeoaaDoor.Ara

theorem frame19 {a : Act} (h : a.tmps.size = 19) (hd : a.defers = []) : ∃ u : Nat → Value, a = { tmps := #[u 0, u 1, u 2, u 3, u 4, u 5, u 6, u 7, u 8, u 9, u 10, u 11, u 12, u 13, u 14, u 15, u 16, u 17, u 18], defers := [] } ∧ ∀ n, a.tmps.getD n undef = u n := by
  refine ⟨fun n => a.tmps.getD n undef, ?_, fun _ => rfl⟩
  have h1 := arr_lit a.tmps h
  cases a with
  | mk t d =>
    simp only at hd h1
    subst hd
    congr 1
def ThJ (ps : List Pk) (w0 : World) (A : Option Addr) (cap : Nat) (a : Act) (w' : World) : Prop :=
  a.tmps.size = 19 ∧ a.defers = [] ∧ a.tmps.getD 6 undef = .slice A ps.length cap ∧ a.tmps.getD 7 undef = .int .i64 (ps.length : Int) ∧ ∃ (k : Nat) (v : Value), a.tmps.getD 3 undef = v ∧ a.tmps.getD 8 undef = .int .i64 (k : Int) ∧ k ≤ ps.length ∧
    w'.ownsRow w0.heap.size 3 1 v k ((ps.take k).map fun p => .int .i64 p.th) ∧ Below w0.heap.size w0 w'
set_option maxRecDepth 100000 in
set_option maxHeartbeats 2000000 in
theorem threads_any (ps : List Pk) (A : Option Addr) (cap : Nat) (w : World) (hm : ps.length ≤ 1000) (hs : Sl w w.heap.size A (ps.flatMap dP)) :
    Calls Tryd.prog 47 #[.slice A ps.length cap] w fun e w' => ∃ B c, e = .returned (.slice B ps.length c) ∧ Sl w' w'.heap.size B (ps.map fun p => .int .i64 p.th) ∧ Below w.heap.size w w' := by
  go_enter Tryd.func47, Tryd.ntmps47
  go_wp2_with fail
  refine wp_loop (ThJ ps w A cap) (fun a' _ => ps.length - (intOf (a'.tmps.getD 8 undef)).toNat) ?_ ?_
  · exact ⟨rfl, rfl, rfl, rfl, 0, _, rfl, rfl, Nat.zero_le _, World.ownsRow_nil _ _ _ _, Below.refl _ _⟩
  · rintro a' w' ⟨hsz, hdf, s6, s7, k, v, s3, s8, hk, hown, hbel⟩
    obtain ⟨u, rfl, hu⟩ := frame19 hsz hdf
    rw [hu] at s3 s6 s7 s8
    simp only [s3, s6, s7, s8]
    clear hsz hdf s3 s6 s7 s8 hu
    by_cases hlt : k < ps.length
    · obtain ⟨b, off, rfl, hbb, hcell⟩ := sl_pk (hs.below hbel) hlt
      obtain ⟨h0, h1⟩ := hcell k hlt
      have HK := Lib.hid (List.take_succ_eq_append_getElem hlt)
      have i1 : (k : Int) < (ps.length : Int) := by omega
      have HB := Lib.hid hbel
      have hwq := hbel.size
      clear hcell hbel
      generalize ps[k] = x at *
      have hown1 := hown.alloc (.cells #[.int .i64 x.th, .int .i64 x.want] 59)
      have HB1 := Lib.hid (HB.out.alloc HB.out.size (.cells #[.int .i64 x.th, .int .i64 x.want] 59))
      go_wp2_with (at_builtin; refine wpList_append1 (.tmp 12) (.tmp 15) 41 3 _ 1 8 rfl rfl Tryd.underlying41 infoI rfl (by decide) w.heap.size _ _ _ _ _ _ _ _ hown1 rfl rfl ?cge rfl ?d1e ?d2e ?d3e ?d4e ?cke; case' cke => intro v' w2 hown2 hb2 _)
      case cge => first | rfl | simp
      case d1e => simp [Value.oneCell']
      case d2e => simp only [maxLen]; omega
      case d3e => omega
      case d4e => simp; omega
      go_wp2_with fail
      go_roundw
      case rel => exact ⟨rfl, rfl, rfl, rfl, k + 1, v', rfl, by go_num, by omega, by rw [HK.out]; simpa using hown2, HB1.out.trans hb2⟩
      case measure => simp [intOf]; omega
    · obtain rfl : k = ps.length := by omega
      rw [List.take_length] at hown
      obtain ⟨A2, c2, rfl, _, _, hs2⟩ := own_slice hown
      go_wp2_with fail
      go_ret
      exact ⟨A2, c2, rfl, hs2, hbel⟩

/-! the reference's Text -/
theorem js_le (ps : List Pk) (h64 : ∀ p ∈ ps, okP p) : ∀ k, (js ((ps.take k).map wordP)).length ≤ 22 * k
  | 0 => by simp [js]
  | k + 1 => by
    by_cases h : k < ps.length
    · have h1 := js_le ps h64 k
      have h2 := txt_len (h64 ps[k] (List.getElem_mem h)).1
      have h3 : (wordP ps[k]).length ≤ 21 := by unfold wordP; simp; omega
      rw [List.take_succ_eq_append_getElem h, List.map_append]
      by_cases h0 : (ps.take k).map wordP = []
      · rw [h0]; simp [js]; omega
      · rw [List.map_cons, List.map_nil, js_snoc _ _ h0, List.length_append, List.length_cons]; omega
    · have h1 := js_le ps h64 k
      rw [List.take_of_length_le (by omega)] at h1 ⊢
      omega
theorem text_bad {ps : List Pk} {k : Nat} (h : k < ps.length) (hb : goodP ps[k] = false) : textP ps = ([], 1) := by
  unfold textP
  rw [if_neg]
  intro e
  have := List.all_eq_true.1 e ps[k] (List.getElem_mem h)
  rw [hb] at this
  cases this
theorem text_ok {ps : List Pk} (h : ∀ p ∈ ps, goodP p = true) : textP ps = (js (ps.map wordP), 0) := by
  unfold textP
  rw [if_pos (List.all_eq_true.2 h)]
theorem good_no {p : Pk} (h : p.want < 0 ∨ 4 < p.want) : goodP p = false := by
  unfold goodP
  rw [Bool.and_eq_false_iff]
  rcases h with h | h
  · left; simp; omega
  · right; simp; omega
theorem good_yes {p : Pk} (h0 : 0 ≤ p.want) (h4 : p.want ≤ 4) : goodP p = true := by unfold goodP; simp; omega
theorem let_ext : ∀ m : Nat, m < 5 → ((⟨#[115, 108, 117, 114, 118]⟩ : ByteArray)).extract m (m + 1) = B [lets.getD m 0] := by
  intro m h
  apply L_inj
  rw [ext_L, L_B]
  revert m
  decide
theorem js_step (ps : List Pk) {k : Nat} (h : k < ps.length) : js ((ps.take (k + 1)).map wordP) = if k = 0 then wordP ps[k] else js ((ps.take k).map wordP) ++ [32] ++ wordP ps[k] := by
  rw [List.take_succ_eq_append_getElem h, List.map_append]
  by_cases h0 : k = 0
  · subst h0; rw [if_pos rfl]; rfl
  · rw [if_neg h0, List.map_cons, List.map_nil, js_snoc _ _ (by
      intro e
      have := congrArg List.length e
      rw [List.length_map, List.length_take] at this
      simp only [List.length_nil] at this
      omega), List.append_assoc]
    rfl
theorem good_take {ps : List Pk} {k : Nat} (h : k < ps.length) (hg : ∀ p ∈ ps.take k, goodP p = true) (hk : goodP ps[k] = true) : ∀ p ∈ ps.take (k + 1), goodP p = true := by
  rw [List.take_succ_eq_append_getElem h]
  intro p hp
  rcases List.mem_append.1 hp with e | e
  · exact hg p e
  · rw [List.mem_singleton.1 e]; exact hk
theorem add_any (a b : ByteArray) (h : a.size + b.size ≤ 9223372036854775807) (W : World) : (binOp .add 9 (.string a) (.string b)).run Tryd.prog W = .ok (.string (a ++ b)) W := by
  simp [binOp, run_underlying Tryd.underlying9, run_string_add_sum W a b h]
theorem size_app (a b : ByteArray) : (a ++ b).size = a.size + b.size := by simp
set_option maxRecDepth 100000 in
set_option maxHeartbeats 4000000 in
theorem rtext_any (ps : List Pk) (A : Option Addr) (cap : Nat) (w : World) (hm : ps.length ≤ 1000) (h64 : ∀ p ∈ ps, okP p) (hs : Sl w w.heap.size A (ps.flatMap dP)) :
    Calls Tryd.prog 42 #[.slice A ps.length cap] w fun e w' => e = .returned (.tuple #[vS (textP ps).1, .int .i64 (textP ps).2]) ∧ ∃ q, w' = w.drewN q := by
  have i0 : ¬ (4000 : Int) < (ps.length : Int) := by omega
  go_enter Tryd.func42, Tryd.ntmps42
  go_wp2_with fail
  go_loopw [4, 5] (fun s i wr => ∃ k : Nat, k ≤ ps.length ∧ i = .int .i64 (k : Int) ∧ s = vS (js ((ps.take k).map wordP)) ∧ (∀ p ∈ ps.take k, goodP p = true) ∧ ∃ q, wr = w.drewN q) (fun _ i _ => ps.length - (intOf i).toNat)
  case atStart => exact ⟨0, Nat.zero_le _, rfl, rfl, by simp, 0, rfl⟩
  case round =>
    obtain ⟨k, hk, rfl, rfl, hg, q, rfl⟩ := hrel
    by_cases hlt : k < ps.length
    · obtain ⟨b, off, rfl, hbb, hcell⟩ := sl_pk hs hlt
      obtain ⟨h0', h1'⟩ := hcell k hlt
      have h0 : (w.drewN q).cell? ⟨b, off + k * 2, none⟩ = _ := h0'
      have h1 : (w.drewN q).cell? ⟨b, off + k * 2 + 1, none⟩ = _ := h1'
      have hbx := h64 ps[k] (List.getElem_mem hlt)
      have HBAD := Lib.hid (fun h => text_bad hlt (good_no h))
      have HG := Lib.hid (fun h1 h2 => good_take hlt hg (good_yes h1 h2))
      have hL := js_le ps h64 k
      have HJ := Lib.hid (js_step ps hlt)
      have i1 : (k : Int) < (ps.length : Int) := by omega
      clear hcell h0' h1' h64 hg hs
      generalize hw1 : w.drewN q = w1 at *
      have HW1 := Lib.hid hw1
      clear hw1
      generalize ps[k] = x at *
      by_cases hneg : x.want < 0
      · have HE := Lib.hid (HBAD.out (.inl hneg))
        go_wp2_with fail
        go_ret2
        exact ⟨by rw [HE.out]; rfl, q, HW1.out.symm⟩
      · by_cases hbig : 4 < x.want
        · have HE := Lib.hid (HBAD.out (.inr hbig))
          go_wp2_with fail
          go_ret2
          exact ⟨by rw [HE.out]; rfl, q, HW1.out.symm⟩
        · obtain ⟨m, hm0⟩ := Int.eq_ofNat_of_zero_le (show 0 ≤ x.want by omega)
          have HG := Lib.hid (HG.out (by omega) (by omega))
          have HWD := Lib.hid (show wordP x = txt x.th ++ [lets.getD m 0] by unfold wordP; rw [hm0]; rfl)
          rw [hm0] at h1 hneg hbig
          have HT := Lib.hid (rtxt_any _ x.th (Nat.le_refl _) hbx.1)
          have HX := Lib.hid (let_ext m (by omega))
          have hxs : (((⟨#[115, 108, 117, 114, 118]⟩ : ByteArray)).extract m (m + 1)).size = 1 := by rw [let_ext m (by omega)]; rfl
          have hX := txt_len hbx.1
          have i4 : (0 : Int) ≤ (m : Int) := by omega
          have i5 : ¬ (m : Int) < 0 := by omega
          have i6 : ¬ 4 < (m : Int) := by omega
          have i7 : (m : Int) ≤ 4 := by omega
          have i8 : (m : Int) + 1 ≤ 5 := by omega
          clear hm0 HBAD
          have HS0 := Lib.hid (show k = 0 → js ((ps.take k).map wordP) = [] by rintro rfl; rfl)
          generalize js ((ps.take k).map wordP) = S at *
          have hsS := size_B S
          have hst := size_B (txt x.th)
          by_cases hk0 : k = 0
          · subst hk0
            obtain rfl := (HS0.out rfl).symm
            have HE := Lib.hid (show js ((ps.take (0 + 1)).map wordP) = txt x.th ++ [lets.getD m 0] by rw [HJ.out, if_pos rfl, HWD.out])
            have ad1 := add_any (B []) (B (txt x.th)) (by rw [hsS, hst]; omega)
            have ad2 := add_any (B [] ++ B (txt x.th)) (((⟨#[115, 108, 117, 114, 118]⟩ : ByteArray)).extract m (m + 1)) (by rw [size_app, hsS, hst, hxs]; omega)
            generalize txt x.th = t at *
            rw [Nat.zero_mul, Nat.add_zero] at h0 h1
            clear HJ HWD hsS hst hxs
            go_wp2_with fail
            go_quiet ((go_at_call 34; exact Calls.quiet_of_same (HT.out _)))
            go_wp2_with fail
            go_roundw
            case rel => exact ⟨1, by omega, rfl, by rw [HE.out]; show _ = Value.string (B _); rw [← app_B, ← HX.out]; first | rfl | exact congrArg Value.string (congrArg (· ++ _) (app_B [] t)), HG.out, q + nq, by rw [← HW1.out, World.drewN_drewN]⟩
            case measure => simp [intOf]; omega
          · have HE := Lib.hid (show js ((ps.take (k + 1)).map wordP) = S ++ [32] ++ txt x.th ++ [lets.getD m 0] by rw [HJ.out, if_neg hk0, HWD.out]; simp)
            have i9 : (0 : Int) < (k : Int) := by omega
            have n0 : ¬ 9223372036854775807 < S.length + 1 := by omega
            have h32 : (⟨#[32]⟩ : ByteArray).size = 1 := rfl
            have ad1 := add_any (B S ++ ⟨#[32]⟩) (B (txt x.th)) (by rw [size_app, hsS, h32, hst]; omega)
            have ad2 := add_any (B S ++ ⟨#[32]⟩ ++ B (txt x.th)) (((⟨#[115, 108, 117, 114, 118]⟩ : ByteArray)).extract m (m + 1)) (by rw [size_app, size_app, hsS, h32, hst, hxs]; omega)
            generalize txt x.th = t at *
            clear HJ HWD hsS hst hxs h32
            go_wp2_with fail
            go_quiet ((go_at_call 34; exact Calls.quiet_of_same (HT.out _)))
            go_wp2_with fail
            go_roundw
            case rel => exact ⟨k + 1, by omega, by go_num, by rw [HE.out]; show _ = Value.string (B _); rw [← app_B, ← app_B, ← app_B, ← HX.out], HG.out, q + nq, by rw [← HW1.out, World.drewN_drewN]⟩
            case measure => simp [intOf]; omega
    · have HE := Lib.hid (show textP ps = (js (ps.map wordP), 0) from text_ok (fun p hp => hg p (by rw [List.take_of_length_le (by omega)]; exact hp)))
      obtain rfl : k = ps.length := by omega
      rw [List.take_length]
      clear hg
      go_wp2_with fail
      go_ret2
      exact ⟨by rw [HE.out]; rfl, q, rfl⟩
end Go.Proofs.YtcfdphfochfeoaaDoor.Pi
