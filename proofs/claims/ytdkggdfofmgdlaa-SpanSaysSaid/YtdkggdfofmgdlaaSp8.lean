/- The walk of layer 12's reference: Of. -/
import Derived.Test.YtdkggdfofmgdlaaSp6
namespace Go.Proofs.Ytdkggdfofmgdlaa.Sp
open Go.RowKit
theorem frame61 {a : Act} (h : a.tmps.size = 61) (hd : a.defers = []) : ∃ u : Nat → Value, a = { tmps := #[u 0, u 1, u 2, u 3, u 4, u 5, u 6, u 7, u 8, u 9, u 10, u 11, u 12, u 13, u 14, u 15, u 16, u 17, u 18, u 19, u 20, u 21, u 22, u 23, u 24, u 25, u 26, u 27, u 28, u 29, u 30, u 31, u 32, u 33, u 34, u 35, u 36, u 37, u 38, u 39, u 40, u 41, u 42, u 43, u 44, u 45, u 46, u 47, u 48, u 49, u 50, u 51, u 52, u 53, u 54, u 55, u 56, u 57, u 58, u 59, u 60], defers := [] } ∧ ∀ n, a.tmps.getD n undef = u n := by
  refine ⟨fun n => a.tmps.getD n undef, ?_, fun _ => rfl⟩
  have h1 := arr_lit a.tmps h
  cases a with
  | mk t d =>
    simp only at hd h1
    subst hd
    congr 1
/-- Is a stay in the way of another ask of its thread? -/
def busy (k : Nat) (t : Int) (s : St) : Bool := decide (s.th = t) && (decide (s.re < 0) || decide ((k : Int) < s.re))
def freeD (out : List St) (k : Nat) (t : Int) (j : Nat) : Bool := (out.take j).all fun s => !busy k t s
def OfJ1 (l : List E) (w : World) (A : Option Addr) (cap : Nat) (a : Act) (W : World) : Prop :=
  a.tmps.size = 61 ∧ a.defers = [] ∧ a.tmps.getD 0 undef = .slice A l.length cap ∧ ∃ (k : Nat) (v : Value), a.tmps.getD 3 undef = v ∧ a.tmps.getD 4 undef = .int .i64 (k : Int) ∧ k ≤ l.length ∧
    W.ownsRow w.heap.size 38 7 v (outR l k).length ((outR l k).flatMap dSt) ∧ Below w.heap.size w W
def OfJ2 (l : List E) (out : List St) (t : Int) (A : Option Addr) (cap k : Nat) (B : Option Addr) (cb : Nat) (W1 : World) (a : Act) (W : World) : Prop :=
  a.tmps.size = 61 ∧ a.defers = [] ∧ a.tmps.getD 0 undef = .slice A l.length cap ∧ a.tmps.getD 3 undef = .slice B out.length cb ∧ a.tmps.getD 4 undef = .int .i64 (k : Int) ∧ ∃ q, W = W1.drewN q ∧ ∃ j : Nat, a.tmps.getD 5 undef = .bool (freeD out k t j) ∧ a.tmps.getD 6 undef = .int .i64 (j : Int) ∧ j ≤ out.length
theorem stepR_ask {l : List E} {k : Nat} (h : (l.getD k e0).kind = 1) : stepR l (outR l k) k = if freeD (outR l k) k (l.getD k e0).th (outR l k).length = true then outR l k ++ [stay l k (l.getD k e0)] else outR l k := by
  unfold stepR freeD
  simp only [List.take_length, List.all_eq_true]
  by_cases hh : ∀ s ∈ outR l k, s.th = (l.getD k e0).th → ¬ (s.re < 0 ∨ (k : Int) < s.re)
  · rw [if_pos ⟨h, hh⟩, if_pos]
    intro s hs
    have := hh s hs
    unfold busy
    generalize (l.getD k e0).th = tt at *
    by_cases ht : s.th = tt
    · have := this ht
      simp [ht]
      omega
    · simp [ht]
  · rw [if_neg (fun x => hh x.2), if_neg]
    intro hx
    apply hh
    intro s hs ht ho
    have := hx s hs
    unfold busy at this
    simp [ht] at this
    omega
theorem stepR_no {l : List E} {k : Nat} (h : ¬ (l.getD k e0).kind = 1) : stepR l (outR l k) k = outR l k := by
  unfold stepR
  simp only
  rw [if_neg (fun x => h x.1)]
theorem freeD_succ {out : List St} {k j : Nat} {t : Int} (hj : j < out.length) : freeD out k t (j + 1) = (freeD out k t j && !busy k t (out.getD j s0)) := by
  unfold freeD
  rw [List.take_succ_eq_append_getElem hj, List.all_append, List.getD_eq_getElem?_getD, List.getElem?_eq_getElem hj]
  simp
set_option maxRecDepth 100000 in
set_option maxHeartbeats 4000000 in
theorem rof_any (l : List E) (A : Option Addr) (cap : Nat) (w : World) (hm : l.length ≤ 1000) (hs : Sl w w.heap.size A (l.flatMap dE)) :
    Calls Try.prog 16 #[.slice A l.length cap] w fun e w' => ∃ B c, e = .returned (.slice B (outR l l.length).length c) ∧ Sl w' w'.heap.size B ((outR l l.length).flatMap dSt) ∧ Below w.heap.size w w' := by
  have HS := Lib.hid hs
  clear hs
  go_enter Try.func16, Try.ntmps16
  go_wp2_with fail
  refine wp_loop (OfJ1 l w A cap) (fun a' _ => l.length - (intOf (a'.tmps.getD 4 undef)).toNat) ?_ ?_
  · exact ⟨rfl, rfl, rfl, 0, _, rfl, rfl, Nat.zero_le _, World.ownsRow_nil _ _ _ _, Below.refl _ _⟩
  · rintro a' W ⟨hsz, hdf, s0', k, v, s3, s4, hk, hown, hbel⟩
    obtain ⟨u, rfl, hu⟩ := frame61 hsz hdf
    rw [hu] at s0' s3 s4
    simp only [s0', s3, s4]
    clear hsz hdf s0' s3 s4 hu
    have HB := Lib.hid hbel
    have HO := Lib.hid hown
    have hol := outR_len l k
    by_cases hlt : k < l.length
    · obtain ⟨b, off, hA, hbb, hcell⟩ := sl_ev ((HS.out.below hbel).more hbel.size) (by omega)
      subst hA
      obtain ⟨c0, c1, _, _⟩ := hcell k hlt
      have i1 : (k : Int) < (l.length : Int) := by omega
      obtain ⟨B2, cb, rfl, _, _, hsl⟩ := own_slice hown
      have HSL := Lib.hid (show Sl W W.heap.size B2 ((outR l k).flatMap dSt) from hsl)
      clear hcell hbel hown hsl
      by_cases hk1 : (l.getD k e0).kind = 1
      · have q := ibne_no hk1
        have HST := Lib.hid (stepR_ask hk1)
        have HSTAY := Lib.hid (fun W' (hb : Below w.heap.size w W') => stay_any l (some ⟨b, off, none⟩) cap k W' hm hlt ((HS.out.below hb).more hb.size))
        clear hk1
        generalize l.getD k e0 = ev at *
        go_wp2_with fail
        refine wp_loop (OfJ2 l (outR l k) ev.th (some ⟨b, off, none⟩) cap k B2 cb W) (fun a' _ => (outR l k).length - (intOf (a'.tmps.getD 6 undef)).toNat) ?_ ?_
        · exact ⟨rfl, rfl, rfl, rfl, rfl, 0, rfl, 0, rfl, rfl, Nat.zero_le _⟩
        · rintro a' W3 ⟨hsz, hdf, s0', s3, s4, qd, hW, j, s5, s6, hj⟩
          have d1 : W3.cell? ⟨b, off + k * 4 + 1, none⟩ = some (.int .i64 ev.th) := by rw [hW]; exact c1
          have SL3 : Hid (Sl W3 W3.heap.size B2 ((outR l k).flatMap dSt)) := Lib.hid (by rw [hW]; exact HSL.out)
          have HO3 : Hid (W3.ownsRow w.heap.size 38 7 (.slice B2 (outR l k).length cb) (outR l k).length ((outR l k).flatMap dSt)) := Lib.hid (by rw [hW]; exact HO.out)
          have HB3 : Hid (Below w.heap.size w W3) := Lib.hid (by rw [hW]; exact below_drewN HB.out qd)
          have HW := Lib.hid hW
          clear hW c0 c1
          obtain ⟨u, rfl, hu⟩ := frame61 hsz hdf
          rw [hu] at s0' s3 s4 s5 s6
          simp only [s0', s3, s4, s5, s6]
          clear hsz hdf s0' s3 s4 s5 s6 hu
          by_cases hjl : j < (outR l k).length
          · obtain ⟨g, o, hB, _, hc⟩ := sl_st SL3.out (by omega)
            subst hB
            obtain ⟨e0', _, _, e5⟩ := hc j hjl
            have hsucc := freeD_succ (k := k) (t := ev.th) hjl
            have i2 : (j : Int) < ((outR l k).length : Int) := by omega
            clear hc
            generalize (outR l k).getD j s0 = st at *
            have HSU := Lib.hid hsucc
            clear hsucc
            generalize freeD (outR l k) k ev.th j = fr at *
            by_cases h1 : st.th = ev.th
            · have q1 := ibeq h1
              by_cases h2 : st.re < 0
              · have HV := Lib.hid (show freeD (outR l k) k ev.th (j + 1) = false by rw [HSU.out]; simp [busy, h1, h2])
                clear h1
                go_wp2_with fail
                go_quiet (fail)
                go_wp2_with fail
                go_roundw
                case rel => exact ⟨rfl, rfl, rfl, rfl, rfl, _, by rw [HW.out, World.drewN_drewN], j + 1, by rw [HV.out]; rfl, by go_num, by omega⟩
                case measure => simp [intOf]; omega
              · by_cases h3 : (k : Int) < st.re
                · have HV := Lib.hid (show freeD (outR l k) k ev.th (j + 1) = false by rw [HSU.out]; simp [busy, h1, h3])
                  clear h1
                  go_wp2_with fail
                  go_quiet (fail)
                  go_wp2_with fail
                  go_roundw
                  case rel => exact ⟨rfl, rfl, rfl, rfl, rfl, _, by rw [HW.out, World.drewN_drewN], j + 1, by rw [HV.out]; rfl, by go_num, by omega⟩
                  case measure => simp [intOf]; omega
                · have HV := Lib.hid (show freeD (outR l k) k ev.th (j + 1) = fr by rw [HSU.out]; simp [busy, h1, h2, h3])
                  clear h1
                  go_wp2_with fail
                  go_quiet (fail)
                  go_wp2_with fail
                  go_roundw
                  case rel => exact ⟨rfl, rfl, rfl, rfl, rfl, _, by rw [HW.out, World.drewN_drewN], j + 1, by rw [HV.out]; rfl, by go_num, by omega⟩
                  case measure => simp [intOf]; omega
            · have q1 := ibeq_no h1
              have HV := Lib.hid (show freeD (outR l k) k ev.th (j + 1) = fr by rw [HSU.out]; simp [busy, h1])
              clear h1
              go_wp2_with fail
              go_quiet (fail)
              go_wp2_with fail
              go_roundw
              case rel => exact ⟨rfl, rfl, rfl, rfl, rfl, _, by rw [HW.out, World.drewN_drewN], j + 1, by rw [HV.out]; rfl, by go_num, by omega⟩
              case measure => simp [intOf]; omega
          · obtain rfl : j = (outR l k).length := by omega
            have i2 : ¬ ((outR l k).length : Int) < ((outR l k).length : Int) := by omega
            cases hf : freeD (outR l k) k ev.th (outR l k).length with
            | false =>
              rw [hf] at HST
              have HV := Lib.hid (show outR l (k + 1) = outR l k from HST.out.trans (if_neg (by simp)))
              clear hf
              go_wp2_with fail
              go_roundw
              case rel => exact ⟨rfl, rfl, rfl, k + 1, _, rfl, by go_num, by omega, by rw [HV.out]; exact HO3.out, HB3.out⟩
              case measure => simp [intOf]; omega
            | true =>
              rw [hf] at HST
              have HV := Lib.hid (show outR l (k + 1) = outR l k ++ [stay l k ev] from HST.out.trans (if_pos rfl))
              have HC := Lib.hid (HSTAY.out W3 HB3.out)
              clear hf
              go_wp2_with fail
              refine HC.out.mono ?_
              rintro e w5 ⟨rfl, b5⟩
              have how := own_below HO3.out (Nat.le_refl _) b5
              have hb5 := HB3.out.trans (b5.mono HB3.out.size)
              have HB5 := Lib.hid hb5
              have hsz5 := hb5.size
              clear b5 hb5
              generalize stay l k ev = sv at *
              unfold vSt
              go_wp2_with (at_builtin; refine wpList_append1 (.tmp 54) (.tmp 58) 35 38 _ 7 56 rfl rfl Try.underlying35 infoSt rfl (by decide) w.heap.size _ _ _ _ _ _ _ _ how rfl rfl ?cgS rfl ?d1S ?d2S ?d3S ?d4S ?ckS; case' ckS => intro v' w2 hown2 hb2 _)
              case cgS => first | rfl | simp
              case d1S => simp [Value.oneCell']
              case d2S => simp only [maxLen]; omega
              case d3S => omega
              try (case d4S => omega)
              go_wp2_with fail
              go_roundw
              case rel => exact ⟨rfl, rfl, rfl, k + 1, v', rfl, by go_num, by omega, by rw [HV.out]; simpa [dSt] using hown2, HB5.out.trans hb2⟩
              case measure => simp [intOf]; omega
      · have q := ibne hk1
        have HST := Lib.hid (stepR_no hk1)
        clear hk1
        generalize l.getD k e0 = ev at *
        go_wp2_with fail
        go_roundw
        case rel => exact ⟨rfl, rfl, rfl, k + 1, _, rfl, by go_num, by omega, by show World.ownsRow _ _ _ _ _ (stepR l (outR l k) k).length ((stepR l (outR l k) k).flatMap dSt); rw [HST.out]; exact HO.out, HB.out⟩
        case measure => simp [intOf]; omega
    · obtain rfl : k = l.length := by omega
      have i1 : ¬ (l.length : Int) < (l.length : Int) := by omega
      obtain ⟨B2, cb, rfl, _, _, hsl⟩ := own_slice hown
      have HSL := Lib.hid (show Sl W W.heap.size B2 ((outR l l.length).flatMap dSt) from hsl)
      clear hown hbel hsl
      go_wp2_with fail
      go_ret
      first | exact ⟨B2, ⟨cb, rfl⟩, HSL.out, HB.out⟩ | exact ⟨B2, cb, rfl, HSL.out, HB.out⟩
end Go.Proofs.Ytdkggdfofmgdlaa.Sp
