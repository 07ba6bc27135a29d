/- The walk of LineBack. -/
import Derived.Test.YtcfdphfochfeoaaDoorLi4
import Derived.Test.YtcfdphfochfeoaaDoorReg
namespace Go.Proofs.YtcfdphfochfeoaaDoor.Li
open Go.RowKit Go.Shelf
def from1 (b off c : Nat) : Option Addr := if c = 1 then some ⟨b, off, none⟩ else some ⟨b, off + 1, none⟩
theorem sl_from1 (b off n c : Nat) (h : n + 1 ≤ c) (W : World) : (Instr.sliceAt 22 (.slice (some ⟨b, off, none⟩) (n + 1) c) (some (.int .i64 1)) none none).run Tryd.prog W = .ok (.slice (from1 b off c) n (c - 1)) W := by
  have he : Tryd.prog.elem 22 = 9 := by kernel_rfl
  have hu : Tryd.prog.underlying 22 = some (.slice (Tryd.prog.elem 22)) := by rw [he]; exact Tryd.underlying22
  rw [run_sliceAt_slice W _ _ _ _ _ hu, run_slice_l W _ _ _ _ hu .i64 1 (by omega) (by omega), he, Tryd.sizeOf9 W]
  show Result.ok (sliced _ _ _ _ _) _ = _
  unfold sliced from1
  simp only [Int.toNat_one, Option.map_some, Addr.add]
  rw [Nat.add_sub_cancel]
  rfl
theorem from1_sl {w : World} {b off c : Nat} {ls : List (List UInt8)} (h : ls.length + 1 ≤ c) (hb : b < w.heap.size) (hc : ∀ (j : Nat) (h : j < ls.length), w.cell? ⟨b, (off + 1) + j, none⟩ = some (vS ls[j])) : Sl w w.heap.size (from1 b off c) (ls.map vS) := by
  unfold from1
  by_cases h1 : c = 1
  · left
    have : ls = [] := List.eq_nil_of_length_eq_zero (by omega)
    rw [this]; rfl
  · rw [if_neg h1]
    right
    exact ⟨b, off + 1, rfl, hb, fun j hj => by
      rw [List.getElem_map]
      exact hc j (by simpa using hj)⟩
theorem words_sc (s : ByteArray) (w : World) (hs : s.size ≤ 4096) : Calls Tryd.prog 23 #[.string s] w fun e w' => ∃ A c, e = .returned (.slice A (words (L s)).length c) ∧ Sl w' w'.heap.size A ((words (L s)).map vS) ∧ Below w.heap.size w w' ∧ (words (L s)).length ≤ c := by
  refine (words_any s w hs).mono ?_
  rintro e w' ⟨v, rfl, h1, h2⟩
  obtain ⟨A, c, rfl, hc, _, h3⟩ := own_slice h1
  exact ⟨A, c, rfl, h3, h2, hc⟩
def BkJ (w0 : World) (ls : List (List UInt8)) (v0 : Value) (a : Act) (w' : World) : Prop :=
  a.tmps.size = 76 ∧ a.defers = [] ∧ a.tmps.getD 0 undef = v0 ∧ ∃ k : Nat, a.tmps.getD 8 undef = .int .i64 k ∧ k ≤ ls.length ∧ (∀ x ∈ ls.take k, (10 : UInt8) ∉ x) ∧ Below w0.heap.size w0 w'
theorem frame76 {a : Act} (h : a.tmps.size = 76) (hd : a.defers = []) : ∃ u : Nat → Value, a = { tmps := #[u 0, u 1, u 2, u 3, u 4, u 5, u 6, u 7, u 8, u 9, u 10, u 11, u 12, u 13, u 14, u 15, u 16, u 17, u 18, u 19, u 20, u 21, u 22, u 23, u 24, u 25, u 26, u 27, u 28, u 29, u 30, u 31, u 32, u 33, u 34, u 35, u 36, u 37, u 38, u 39, u 40, u 41, u 42, u 43, u 44, u 45, u 46, u 47, u 48, u 49, u 50, u 51, u 52, u 53, u 54, u 55, u 56, u 57, u 58, u 59, u 60, u 61, u 62, u 63, u 64, u 65, u 66, u 67, u 68, u 69, u 70, u 71, u 72, u 73, u 74, u 75], defers := [] } ∧ ∀ n, a.tmps.getD n undef = u n := by
  refine ⟨fun n => a.tmps.getD n undef, ?_, fun _ => rfl⟩
  have h1 := arr_lit a.tmps h
  cases a with
  | mk t d =>
    simp only at hd h1
    subst hd
    congr 1
set_option maxRecDepth 100000 in
set_option maxHeartbeats 4000000 in
theorem back_law (w : World) (ho : Ok w) (A : Option Addr) (cap : Nat) (ls : List (List UInt8)) (hm : ls.length ≤ 9223372036854775807) (h63 : ∀ x ∈ ls, x.length ≤ 9223372036854775807) (hs : Sl w w.heap.size A (ls.map vS)) (s : ByteArray) (hs63 : s.size ≤ 9223372036854775807) :
    Calls Tryd.prog 4 #[.slice A ls.length cap, .string s] w fun e w' => e = .returned (.bool true) ∧ Below w.heap.size w w' := by
  have HA := Lib.hid (fun W hW => awake_any W hW)
  have HF := Lib.hid (few_any ls A cap w hm h63 hs)
  have HO := Lib.hid ho
  have HS := Lib.hid hs
  clear ho hs h63
  by_cases h3 : s.size ≤ 300
  · have i3 : ¬ (300 : Int) < (s.size : Int) := by omega
    have C1 := Lib.hid (fun W => head_any s W (by omega))
    have C5 := Lib.hid (fun W => words_sc s W (by omega))
    have n1 := words_len (L s)
    have HW := Lib.hid (words_head (L s))
    have hl := head_len (L s)
    rw [← size_L] at n1 hl
    generalize headW (L s) = x at *
    generalize headR (L s) = y at *
    generalize words (L s) = ws at *
    have C6 := words_sl (B y)
    rw [L_B] at C6
    have hyB := size_B y
    have C6 := Lib.hid (fun W => C6 W (by omega))
    clear hyB
    go_enter Tryd.func4, Tryd.ntmps4
    go_wp2_with fail
    refine HF.out.mono ?_
    rintro e wx ⟨⟨b, rfl, hb⟩, hwx⟩
    obtain rfl := hwx.symm
    cases b with
    | false =>
      go_wp2_with fail
      refine (HA.out _ HO.out).mono ?_
      rintro e wz ⟨rfl, bz⟩
      have BZ := Lib.hid (nx (Below.refl _ _) bz)
      clear bz
      go_wp2_with fail
      go_ret
      exact ⟨rfl, BZ.out⟩
    | true =>
      have hf := hb rfl
      have hl20 := hf.1
      clear hb
      go_wp2_with fail
      refine (C1.out _).mono ?_
      rintro e w1 ⟨rfl, b1⟩
      have B1 := Lib.hid b1
      clear b1
      go_wp2_with fail
      refine (C5.out _).mono ?_
      rintro e w3 ⟨A3, c3, rfl, s3, b3, hc3⟩
      have B3 := Lib.hid (nx B1.out b3)
      have S3 := Lib.hid s3
      clear s3 b3
      by_cases hx : x = []
      · subst hx
        obtain rfl : ws = [] := by rw [HW.out]; rfl
        go_wp2_with fail
        go_quiet (fail)
        have BT := Lib.hid (below_drewN B3.out nq)
        generalize w3.drewN nq = wt at *
        go_wp2_with fail
        refine wp_loop (BkJ w ls (.slice A ls.length cap)) (fun a' _ => ls.length - (intOf (a'.tmps.getD 8 undef)).toNat) ?_ ?_
        · exact ⟨rfl, rfl, rfl, 0, rfl, Nat.zero_le _, by simp, BT.out⟩
        · rintro a' wl ⟨hsz, hdf, s0, k, s8, hk, hall, hb⟩
          obtain ⟨u, rfl, hu⟩ := frame76 hsz hdf
          rw [hu] at s0 s8
          simp only [s0, s8]
          clear hsz hdf s0 s8 hu
          have OL := Lib.hid (HO.out.step hb)
          have BL := Lib.hid hb
          have SL := Lib.hid ((HS.out.below hb).more hb.size)
          clear hb
          by_cases hlt : k < ls.length
          · obtain ⟨b, off, rfl, hbb, hcell⟩ := sl_str SL.out hlt
            have h0 := hcell k hlt
            have i1 : (k : Int) < (ls.length : Int) := by omega
            have HT := Lib.hid (List.take_succ_eq_append_getElem hlt)
            have HM := Lib.hid (hf.2 ls[k] (List.getElem_mem hlt))
            clear hcell
            generalize ls[k] = x at *
            have HH := has_any (B x) 10 wl (by rw [size_B]; have := HM.out; omega)
            rw [L_B] at HH
            by_cases h10 : (10 : UInt8) ∈ x
            · rw [decide_eq_true h10] at HH
              have HH := Lib.hid HH
              clear hall h10
              go_wp2_with fail
              refine (HH.out).mono ?_
              rintro e wx ⟨rfl, hwx⟩
              obtain rfl := hwx.symm
              go_wp2_with fail
              refine (HA.out _ OL.out).mono ?_
              rintro e wz ⟨rfl, bz⟩
              have BZ := Lib.hid (nx BL.out bz)
              clear bz
              go_wp2_with fail
              go_ret
              exact ⟨rfl, BZ.out⟩
            · rw [decide_eq_false h10] at HH
              have HH := Lib.hid HH
              have HN := Lib.hid (show ∀ y ∈ ls.take (k + 1), (10 : UInt8) ∉ y by
                rw [HT.out]
                intro y hy
                rcases List.mem_append.1 hy with hy | hy
                · exact hall y hy
                · rw [List.mem_singleton.1 hy]; exact h10)
              clear hall h10
              go_wp2_with fail
              refine (HH.out).mono ?_
              rintro e wx ⟨rfl, hwx⟩
              obtain rfl := hwx.symm
              go_wp2_with fail
              go_roundw
              case rel => exact ⟨rfl, rfl, rfl, k + 1, by go_num, by omega, HN.out, BL.out⟩
              case measure => simp [intOf]; omega
          · have HL := Lib.hid (lines_text ls (fun x hx => hall x (by rw [List.take_of_length_le (by omega)]; exact hx)))
            have C8 := lines_sl (B (textL ls))
            rw [L_B, HL.out] at C8
            have hz := few_textL hf
            have hsB := size_B (textL ls)
            have C8 := Lib.hid (fun W => C8 W (by omega))
            have C7 := Lib.hid (fun W => text_any ls A cap W (by omega) (by omega))
            clear hall
            generalize textL ls = tx at *
            go_wp2_with fail
            refine (C7.out _ SL.out).mono ?_
            rintro e w9 ⟨rfl, b9⟩
            have B9 := Lib.hid (nx BL.out b9)
            have O9 := Lib.hid (OL.out.step b9)
            clear b9
            go_wp2_with fail
            refine (C8.out _ O9.out).mono ?_
            rintro e w10 ⟨A10, c10, rfl, s10, b10⟩
            have B10 := Lib.hid (nx B9.out b10)
            have O10 := Lib.hid (O9.out.step b10)
            have S10 := Lib.hid s10
            clear s10 b10
            go_wp2_with fail
            refine (same_tt ls A10 A c10 cap _ (by omega) S10.out ((HS.out.below B10.out).more B10.out.size)).mono ?_
            rintro e w11 ⟨rfl, b11⟩
            have B11 := Lib.hid (nx B10.out b11)
            have O11 := Lib.hid (O10.out.step b11)
            clear b11
            go_wp2_with fail
            refine (HA.out _ O11.out).mono ?_
            rintro e wz ⟨rfl, bz⟩
            have BZ := Lib.hid (nx B11.out bz)
            clear bz
            go_wp2_with fail
            go_ret
            exact ⟨rfl, BZ.out⟩
      · obtain rfl : ws = x :: words y := by rw [HW.out, if_neg hx]
        have hxe : x.isEmpty = false := by cases x with
          | nil => exact absurd rfl hx
          | cons _ _ => rfl
        generalize words y = ws at *
        have hcs := sl_str (ls := x :: ws) S3.out (k := 0) (by simp)
        obtain ⟨b, off, rfl, hbb, hcell⟩ := hcs
        have h0 := hcell 0 (by simp)
        have HCL := Lib.hid (show ∀ (j : Nat) (h : j < ws.length), w3.cell? ⟨b, (off + 1) + j, none⟩ = some (vS ws[j]) from fun j h => by
          have := hcell (j + 1) (by simpa using h)
          rw [show off + 1 + j = off + (j + 1) by omega]
          simpa using this)
        simp only [List.getElem_cons_zero, Nat.add_zero] at h0
        clear hcell hx
        have hle : (x :: ws).length = ws.length + 1 := rfl
        rw [hle] at hc3 ⊢
        have slf := sl_from1 b off ws.length c3 hc3
        have q0 : ((ws.length : Int) + 1 == 0) = false := ibeq_no (by omega)
        clear HW C1 C5 hl
        go_wp2_with fail
        refine wp_region_held_drew (S := fun V => V.cell? ⟨b, off, none⟩ = some (vS x)) (by kernel_rfl) h0 (fun hHeld => ?_)
        refine take_to 0 (some 25) (v := ?_) rfl rfl (by kernel_rfl) (by kernel_rfl) (by kernel_rfl) (fun _ _ _ h => h) (Or.inl ⟨by rfl, ?_⟩) (by first | trivial | assumption) ?_
        rotate_left
        focus (intro w hSw; (try dsimp only at hSw); go_simp; (try with_reducible rfl))
        simp only [Act.put, List.setIfInBounds_toArray, List.set_cons_zero, List.set_cons_succ]
        refine take_to 1 (some 26) (v := ?_) rfl rfl (by kernel_rfl) (by kernel_rfl) (by kernel_rfl) (fun _ _ _ h => h) (Or.inl ⟨by rfl, ?_⟩) (by first | trivial | assumption) ?_
        rotate_left
        focus (intro w hSw; (try dsimp only at hSw); go_simp; (try with_reducible rfl))
        simp only [Act.put, List.setIfInBounds_toArray, List.set_cons_zero, List.set_cons_succ]
        refine take_to 2 (some 27) (v := ?_) rfl rfl (by kernel_rfl) (by kernel_rfl) (by kernel_rfl) (fun _ _ _ h => h) (Or.inl ⟨by rfl, ?_⟩) (by first | trivial | assumption) ?_
        rotate_left
        focus (intro w hSw; (try dsimp only at hSw); go_simp; (try with_reducible rfl))
        simp only [Act.put, List.setIfInBounds_toArray, List.set_cons_zero, List.set_cons_succ]
        refine take_to 3 (some 28) (v := undef) rfl rfl (by kernel_rfl) (by kernel_rfl) (by kernel_rfl) (fun _ _ _ h => h) (Or.inr ⟨by rfl, rfl⟩) (by first | trivial | assumption) ?_
        simp only [Act.put, List.setIfInBounds_toArray, List.set_cons_zero, List.set_cons_succ]
        refine take_to 4 (some 29) (v := undef) rfl rfl (by kernel_rfl) (by kernel_rfl) (by kernel_rfl) (fun _ _ _ h => h) (Or.inr ⟨by rfl, rfl⟩) (by first | trivial | assumption) ?_
        simp only [Act.put, List.setIfInBounds_toArray, List.set_cons_zero, List.set_cons_succ]
        refine take_to 5 (some 30) (v := undef) rfl rfl (by kernel_rfl) (by kernel_rfl) (by kernel_rfl) (fun _ _ _ h => h) (Or.inr ⟨by rfl, rfl⟩) (by first | trivial | assumption) ?_
        simp only [Act.put, List.setIfInBounds_toArray, List.set_cons_zero, List.set_cons_succ]
        refine take_to 6 (some 31) (v := ?_) rfl rfl (by kernel_rfl) (by kernel_rfl) (by kernel_rfl) (fun _ _ _ h => h) (Or.inl ⟨by rfl, ?_⟩) (by first | trivial | assumption) ?_
        rotate_left
        focus (intro w hSw; (try dsimp only at hSw); go_simp; (try with_reducible rfl))
        simp only [Act.put, List.setIfInBounds_toArray, List.set_cons_zero, List.set_cons_succ]
        refine take_to 7 (some 32) (v := ?_) rfl rfl (by kernel_rfl) (by kernel_rfl) (by kernel_rfl) (fun _ _ _ h => h) (Or.inl ⟨by rfl, ?_⟩) (by first | trivial | assumption) ?_
        rotate_left
        focus (intro w hSw; (try dsimp only at hSw); go_simp; (try with_reducible rfl))
        simp only [Act.put, List.setIfInBounds_toArray, List.set_cons_zero, List.set_cons_succ]
        refine take_to 8 (some 33) (v := ?_) rfl rfl (by kernel_rfl) (by kernel_rfl) (by kernel_rfl) (fun _ _ _ h => h) (Or.inl ⟨by rfl, ?_⟩) (by first | trivial | assumption) ?_
        rotate_left
        focus (intro w hSw; (try dsimp only at hSw); go_simp; (try with_reducible rfl))
        simp only [Act.put, List.setIfInBounds_toArray, List.set_cons_zero, List.set_cons_succ]
        refine take_to 9 (some 34) (v := ?_) rfl rfl (by kernel_rfl) (by kernel_rfl) (by kernel_rfl) (fun _ _ _ h => h) (Or.inl ⟨by rfl, ?_⟩) (by first | trivial | assumption) ?_
        rotate_left
        focus (intro w hSw; (try dsimp only at hSw); go_simp; (try with_reducible rfl))
        simp only [Act.put, List.setIfInBounds_toArray, List.set_cons_zero, List.set_cons_succ]
        refine take_to 10 (some 35) (v := ?_) rfl rfl (by kernel_rfl) (by kernel_rfl) (by kernel_rfl) (fun _ _ _ h => h) (Or.inl ⟨by rfl, ?_⟩) (by first | trivial | assumption) ?_
        rotate_left
        focus (intro w hSw; (try dsimp only at hSw); go_simp; (try with_reducible rfl))
        simp only [Act.put, List.setIfInBounds_toArray, List.set_cons_zero, List.set_cons_succ]
        refine take_to 11 (some 36) (v := ?_) rfl rfl (by kernel_rfl) (by kernel_rfl) (by kernel_rfl) (fun _ _ _ h => h) (Or.inl ⟨by rfl, ?_⟩) (by first | trivial | assumption) ?_
        rotate_left
        focus (intro w hSw; (try dsimp only at hSw); go_simp; (try with_reducible rfl))
        simp only [Act.put, List.setIfInBounds_toArray, List.set_cons_zero, List.set_cons_succ]
        refine take_to 12 (some 37) (v := ?_) rfl rfl (by kernel_rfl) (by kernel_rfl) (by kernel_rfl) (fun _ _ _ h => h) (Or.inl ⟨by rfl, ?_⟩) (by first | trivial | assumption) ?_
        rotate_left
        focus (intro w hSw; (try dsimp only at hSw); go_simp; (try with_reducible rfl))
        simp only [Act.put, List.setIfInBounds_toArray, List.set_cons_zero, List.set_cons_succ]
        refine take_to 13 (some 38) (v := ?_) rfl rfl (by kernel_rfl) (by kernel_rfl) (by kernel_rfl) (fun _ _ _ h => h) (Or.inl ⟨by rfl, ?_⟩) (by first | trivial | assumption) ?_
        rotate_left
        focus (intro w hSw; (try dsimp only at hSw); go_simp; (try with_reducible rfl))
        simp only [Act.put, List.setIfInBounds_toArray, List.set_cons_zero, List.set_cons_succ]
        refine take_to 14 (some 39) (v := ?_) rfl rfl (by kernel_rfl) (by kernel_rfl) (by kernel_rfl) (fun _ _ _ h => h) (Or.inl ⟨by rfl, ?_⟩) (by first | trivial | assumption) ?_
        rotate_left
        focus (intro w hSw; (try dsimp only at hSw); go_simp; (try with_reducible rfl))
        simp only [Act.put, List.setIfInBounds_toArray, List.set_cons_zero, List.set_cons_succ]
        refine take_to 15 (some 40) (v := ?_) rfl rfl (by kernel_rfl) (by kernel_rfl) (by kernel_rfl) (fun _ _ _ h => h) (Or.inl ⟨by rfl, ?_⟩) (by first | trivial | assumption) ?_
        rotate_left
        focus (intro w hSw; (try dsimp only at hSw); go_simp; (try with_reducible rfl))
        simp only [Act.put, List.setIfInBounds_toArray, List.set_cons_zero, List.set_cons_succ]
        refine take_to 16 (some 41) (v := ?_) rfl rfl (by kernel_rfl) (by kernel_rfl) (by kernel_rfl) (fun _ _ _ h => h) (Or.inl ⟨by rfl, ?_⟩) (by first | trivial | assumption) ?_
        rotate_left
        focus (intro w hSw; (try dsimp only at hSw); go_simp; (try with_reducible rfl))
        simp only [Act.put, List.setIfInBounds_toArray, List.set_cons_zero, List.set_cons_succ]
        refine take_to 17 (some 42) (v := ?_) rfl rfl (by kernel_rfl) (by kernel_rfl) (by kernel_rfl) (fun _ _ _ h => h) (Or.inl ⟨by rfl, ?_⟩) (by first | trivial | assumption) ?_
        rotate_left
        focus (intro w hSw; (try dsimp only at hSw); go_simp; (try with_reducible rfl))
        simp only [Act.put, List.setIfInBounds_toArray, List.set_cons_zero, List.set_cons_succ]
        refine take_to 18 (some 43) (v := ?_) rfl rfl (by kernel_rfl) (by kernel_rfl) (by kernel_rfl) (fun _ _ _ h => h) (Or.inl ⟨by rfl, ?_⟩) (by first | trivial | assumption) ?_
        rotate_left
        focus (intro w hSw; (try dsimp only at hSw); go_simp; (try with_reducible rfl))
        simp only [Act.put, List.setIfInBounds_toArray, List.set_cons_zero, List.set_cons_succ]
        refine take_to 19 (some 44) (v := ?_) rfl rfl (by kernel_rfl) (by kernel_rfl) (by kernel_rfl) (fun _ _ _ h => h) (Or.inl ⟨by rfl, ?_⟩) (by first | trivial | assumption) ?_
        rotate_left
        focus (intro w hSw; (try dsimp only at hSw); go_simp; (try with_reducible rfl))
        simp only [Act.put, List.setIfInBounds_toArray, List.set_cons_zero, List.set_cons_succ]
        refine take_to 20 (some 45) (v := ?_) rfl rfl (by kernel_rfl) (by kernel_rfl) (by kernel_rfl) (fun _ _ _ h => h) (Or.inl ⟨by rfl, ?_⟩) (by first | trivial | assumption) ?_
        rotate_left
        focus (intro w hSw; (try dsimp only at hSw); go_simp; (try with_reducible rfl))
        simp only [Act.put, List.setIfInBounds_toArray, List.set_cons_zero, List.set_cons_succ]
        refine take_to 21 (some 46) (v := ?_) rfl rfl (by kernel_rfl) (by kernel_rfl) (by kernel_rfl) (fun _ _ _ h => h) (Or.inl ⟨by rfl, ?_⟩) (by first | trivial | assumption) ?_
        rotate_left
        focus (intro w hSw; (try dsimp only at hSw); go_simp; (try with_reducible rfl))
        simp only [Act.put, List.setIfInBounds_toArray, List.set_cons_zero, List.set_cons_succ]
        refine take_to 22 (some 47) (v := ?_) rfl rfl (by kernel_rfl) (by kernel_rfl) (by kernel_rfl) (fun _ _ _ h => h) (Or.inl ⟨by rfl, ?_⟩) (by first | trivial | assumption) ?_
        rotate_left
        focus (intro w hSw; (try dsimp only at hSw); go_simp; (try with_reducible rfl))
        simp only [Act.put, List.setIfInBounds_toArray, List.set_cons_zero, List.set_cons_succ]
        refine take_to 23 (some 48) (v := ?_) rfl rfl (by kernel_rfl) (by kernel_rfl) (by kernel_rfl) (fun _ _ _ h => h) (Or.inl ⟨by rfl, ?_⟩) (by first | trivial | assumption) ?_
        rotate_left
        focus (intro w hSw; (try dsimp only at hSw); go_simp; (try with_reducible rfl))
        simp only [Act.put, List.setIfInBounds_toArray, List.set_cons_zero, List.set_cons_succ]
        refine take_to 24 (some 49) (v := ?_) rfl rfl (by kernel_rfl) (by kernel_rfl) (by kernel_rfl) (fun _ _ _ h => h) (Or.inl ⟨by rfl, ?_⟩) (by first | trivial | assumption) ?_
        rotate_left
        focus (intro w hSw; (try dsimp only at hSw); go_simp; (try with_reducible rfl))
        simp only [Act.put, List.setIfInBounds_toArray, List.set_cons_zero, List.set_cons_succ]
        refine wpAnyH_ready (rs := [25]) (by kernel_rfl) (by simp) ?_
        refine AllReadyH.cons rfl (fun K hK => ?_) AllReadyH.nil
        go_simp
        refine (C6.out _).mono ?_
        rintro e w6 ⟨A6, c6, rfl, s6, b6⟩
        have hb6 : b < w6.heap.size := Nat.lt_of_lt_of_le hbb b6.size
        have HS6 := Lib.hid (from1_sl hc3 hb6 (fun j h => (b6.cell (p := ⟨b, off + 1 + j, none⟩) hbb).trans (HCL.out j h)))
        have S6 := Lib.hid s6
        have g0 : w6.cell? ⟨b, off, none⟩ = some (vS x) := (b6.cell (p := ⟨b, off, none⟩) hbb).trans h0
        have B6 : Hid (Below w.heap.size w w6) := Lib.hid (nx (below_drewN B3.out 1) b6)
        clear s6 b6
        go_simp
        refine hK.out _ _ g0 (fun hHeld => ?_)
        refine wpAnyH_ready (rs := [26]) (by kernel_rfl) (by simp) ?_
        refine AllReadyH.cons rfl (fun K hK => ?_) AllReadyH.nil
        go_simp
        refine (same_tt ws _ A6 _ c6 _ (by omega) HS6.out S6.out).mono ?_
        rintro e w7 ⟨rfl, b7⟩
        have g1 : w7.cell? ⟨b, off, none⟩ = some (vS x) := (b7.cell (p := ⟨b, off, none⟩) hb6).trans g0
        have BT := Lib.hid (nx B6.out b7)
        clear b7
        go_simp
        refine hK.out _ _ g1 (fun hHeld => ?_)
        refine take_to 27 (some 52) (v := ?_) rfl rfl (by kernel_rfl) (by kernel_rfl) (by kernel_rfl) (fun _ _ _ h => h) (Or.inl ⟨by rfl, ?_⟩) (by first | trivial | assumption) ?_
        rotate_left
        focus (intro w hSw; (try dsimp only at hSw); go_simp; (try with_reducible rfl))
        simp only [Act.put, List.setIfInBounds_toArray, List.set_cons_zero, List.set_cons_succ]
        refine take_to 28 (some 53) (v := ?_) rfl rfl (by kernel_rfl) (by kernel_rfl) (by kernel_rfl) (fun _ _ _ h => h) (Or.inl ⟨by rfl, ?_⟩) (by first | trivial | assumption) ?_
        rotate_left
        focus (intro w hSw; (try dsimp only at hSw); go_simp; (try with_reducible rfl))
        simp only [Act.put, List.setIfInBounds_toArray, List.set_cons_zero, List.set_cons_succ]
        refine take_to 29 (some 54) (v := ?_) rfl rfl (by kernel_rfl) (by kernel_rfl) (by kernel_rfl) (fun _ _ _ h => h) (Or.inl ⟨by rfl, ?_⟩) (by first | trivial | assumption) ?_
        rotate_left
        focus (intro w hSw; (try dsimp only at hSw); go_simp; (try with_reducible rfl))
        simp only [Act.put, List.setIfInBounds_toArray, List.set_cons_zero, List.set_cons_succ]
        refine take_to 30 (some 55) (v := ?_) rfl rfl (by kernel_rfl) (by kernel_rfl) (by kernel_rfl) (fun _ _ _ h => h) (Or.inl ⟨by rfl, ?_⟩) (by first | trivial | assumption) ?_
        rotate_left
        focus (intro w hSw; (try dsimp only at hSw); go_simp; (try with_reducible rfl))
        simp only [Act.put, List.setIfInBounds_toArray, List.set_cons_zero, List.set_cons_succ]
        refine wpAnyH_done (by kernel_rfl) ?_ _
        go_wp2_with fail
        refine wp_loop (BkJ w ls (.slice A ls.length cap)) (fun a' _ => ls.length - (intOf (a'.tmps.getD 8 undef)).toNat) ?_ ?_
        · exact ⟨rfl, rfl, rfl, 0, rfl, Nat.zero_le _, by simp, BT.out⟩
        · rintro a' wl ⟨hsz, hdf, s0, k, s8, hk, hall, hb⟩
          obtain ⟨u, rfl, hu⟩ := frame76 hsz hdf
          rw [hu] at s0 s8
          simp only [s0, s8]
          clear hsz hdf s0 s8 hu
          have OL := Lib.hid (HO.out.step hb)
          have BL := Lib.hid hb
          have SL := Lib.hid ((HS.out.below hb).more hb.size)
          clear hb
          by_cases hlt : k < ls.length
          · obtain ⟨b, off, rfl, hbb, hcell⟩ := sl_str SL.out hlt
            have h0 := hcell k hlt
            have i1 : (k : Int) < (ls.length : Int) := by omega
            have HT := Lib.hid (List.take_succ_eq_append_getElem hlt)
            have HM := Lib.hid (hf.2 ls[k] (List.getElem_mem hlt))
            clear hcell
            generalize ls[k] = x at *
            have HH := has_any (B x) 10 wl (by rw [size_B]; have := HM.out; omega)
            rw [L_B] at HH
            by_cases h10 : (10 : UInt8) ∈ x
            · rw [decide_eq_true h10] at HH
              have HH := Lib.hid HH
              clear hall h10
              go_wp2_with fail
              refine (HH.out).mono ?_
              rintro e wx ⟨rfl, hwx⟩
              obtain rfl := hwx.symm
              go_wp2_with fail
              refine (HA.out _ OL.out).mono ?_
              rintro e wz ⟨rfl, bz⟩
              have BZ := Lib.hid (nx BL.out bz)
              clear bz
              go_wp2_with fail
              go_ret
              exact ⟨rfl, BZ.out⟩
            · rw [decide_eq_false h10] at HH
              have HH := Lib.hid HH
              have HN := Lib.hid (show ∀ y ∈ ls.take (k + 1), (10 : UInt8) ∉ y by
                rw [HT.out]
                intro y hy
                rcases List.mem_append.1 hy with hy | hy
                · exact hall y hy
                · rw [List.mem_singleton.1 hy]; exact h10)
              clear hall h10
              go_wp2_with fail
              refine (HH.out).mono ?_
              rintro e wx ⟨rfl, hwx⟩
              obtain rfl := hwx.symm
              go_wp2_with fail
              go_roundw
              case rel => exact ⟨rfl, rfl, rfl, k + 1, by go_num, by omega, HN.out, BL.out⟩
              case measure => simp [intOf]; omega
          · have HL := Lib.hid (lines_text ls (fun x hx => hall x (by rw [List.take_of_length_le (by omega)]; exact hx)))
            have C8 := lines_sl (B (textL ls))
            rw [L_B, HL.out] at C8
            have hz := few_textL hf
            have hsB := size_B (textL ls)
            have C8 := Lib.hid (fun W => C8 W (by omega))
            have C7 := Lib.hid (fun W => text_any ls A cap W (by omega) (by omega))
            clear hall
            generalize textL ls = tx at *
            go_wp2_with fail
            refine (C7.out _ SL.out).mono ?_
            rintro e w9 ⟨rfl, b9⟩
            have B9 := Lib.hid (nx BL.out b9)
            have O9 := Lib.hid (OL.out.step b9)
            clear b9
            go_wp2_with fail
            refine (C8.out _ O9.out).mono ?_
            rintro e w10 ⟨A10, c10, rfl, s10, b10⟩
            have B10 := Lib.hid (nx B9.out b10)
            have O10 := Lib.hid (O9.out.step b10)
            have S10 := Lib.hid s10
            clear s10 b10
            go_wp2_with fail
            refine (same_tt ls A10 A c10 cap _ (by omega) S10.out ((HS.out.below B10.out).more B10.out.size)).mono ?_
            rintro e w11 ⟨rfl, b11⟩
            have B11 := Lib.hid (nx B10.out b11)
            have O11 := Lib.hid (O10.out.step b11)
            clear b11
            go_wp2_with fail
            refine (HA.out _ O11.out).mono ?_
            rintro e wz ⟨rfl, bz⟩
            have BZ := Lib.hid (nx B11.out bz)
            clear bz
            go_wp2_with fail
            go_ret
            exact ⟨rfl, BZ.out⟩
  · have i3 : (300 : Int) < (s.size : Int) := by omega
    go_enter Tryd.func4, Tryd.ntmps4
    go_wp2_with fail
    refine HF.out.mono ?_
    rintro e wx ⟨⟨b, rfl, hb⟩, hwx⟩
    obtain rfl := hwx.symm
    cases b with
    | false =>
      go_wp2_with fail
      refine (HA.out _ HO.out).mono ?_
      rintro e wz ⟨rfl, bz⟩
      have BZ := Lib.hid (nx (Below.refl _ _) bz)
      clear bz
      go_wp2_with fail
      go_ret
      exact ⟨rfl, BZ.out⟩
    | true =>
      go_wp2_with fail
      refine (HA.out _ HO.out).mono ?_
      rintro e wz ⟨rfl, bz⟩
      have BZ := Lib.hid (nx (Below.refl _ _) bz)
      clear bz
      go_wp2_with fail
      go_ret
      exact ⟨rfl, BZ.out⟩
end Go.Proofs.YtcfdphfochfeoaaDoor.Li
