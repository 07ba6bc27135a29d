/- Walks over texts: blanks, the first word. -/
import Derived.Test.YtcfdphfochfeoaaDoorOpen
import Derived.Test.YtcfdphfochfeoaaDoorLiP
import Derived.Deep.OwnRows
namespace Go.Proofs.YtcfdphfochfeoaaDoor.Li
open Go.RowKit

/-- A text in memory is one cell. -/
abbrev vS (l : List UInt8) : Value := .string (B l)
theorem getD_at {l : List UInt8} {j : Nat} (h : j < l.length) : l.getD j 0 = l[j] := by simp only [List.getD, List.getElem?_eq_getElem h, Option.getD_some]
theorem ix_str (s : ByteArray) (i : Nat) (h : i < s.size) (W : World) : (Instr.index 9 (.string s) (.int .i64 (i : Int))).run Tryd.prog W = .ok (.int .u8 (((L s).getD i 0).toNat : Int)) W := by
  rw [run_index_string W _ s .i64 i Tryd.underlying9, dif_pos ⟨by omega, by omega⟩]
  have : s[((i : Int)).toNat]'(by omega) = (L s).getD i 0 := by
    have hl : i < (L s).length := by rw [← size_L]; exact h
    simp only [Int.toNat_natCast, List.getD, List.getElem?_eq_getElem hl, Option.getD_some]
    rfl
  rw [this]

theorem rblank_any (c : UInt8) (w : World) : Calls Tryd.prog 81 #[.int .u8 (c.toNat : Int)] w fun e w' => e = .returned (.bool (nb c)) ∧ w' = w := by
  rw [nb_nat]
  generalize c.toNat = n
  by_cases h : n = 32
  · subst h
    go_enter Tryd.func81, Tryd.ntmps81
    go_wp2_with fail
    go_ret
    exact ⟨rfl, rfl⟩
  · by_cases h9 : n = 9
    · subst h9
      go_enter Tryd.func81, Tryd.ntmps81
      go_wp2_with fail
      go_ret
      exact ⟨rfl, rfl⟩
    · have hr := Lib.hid (show nbR n = false by simp [nbR, h, h9])
      have q1 := ibeq_no (show ¬ (n : Int) = 32 by omega)
      have q2 := ibeq_no (show ¬ (n : Int) = 9 by omega)
      clear h h9
      go_enter Tryd.func81, Tryd.ntmps81
      go_wp2_with fail
      go_ret
      exact ⟨by rw [hr.out]; rfl, rfl⟩
theorem blank_any (n : Nat) (w : World) : Calls Tryd.prog 79 #[.int .i32 (n : Int)] w fun e w' => e = .returned (.bool (nbR n)) ∧ w' = w := by
  by_cases h : n = 32
  · subst h
    go_enter Tryd.func79, Tryd.ntmps79
    go_wp2_with fail
    go_ret
    exact ⟨rfl, rfl⟩
  · by_cases h9 : n = 9
    · subst h9
      go_enter Tryd.func79, Tryd.ntmps79
      go_wp2_with fail
      go_ret
      exact ⟨rfl, rfl⟩
    · have hr := Lib.hid (show nbR n = false by simp [nbR, h, h9])
      have q1 := ibeq_no (show ¬ (n : Int) = 32 by omega)
      have q2 := ibeq_no (show ¬ (n : Int) = 9 by omega)
      clear h h9
      go_enter Tryd.func79, Tryd.ntmps79
      go_wp2_with fail
      go_ret
      exact ⟨by rw [hr.out]; rfl, rfl⟩

set_option maxRecDepth 100000 in
theorem has_any (s : ByteArray) (c : UInt8) (w : World) (hs : s.size ≤ 9223372036854775807) : Calls Tryd.prog 27 #[.string s, .int .u8 (c.toNat : Int)] w fun e w' => e = .returned (.bool (decide (c ∈ L s))) ∧ w' = w := by
  go_enter Tryd.func27, Tryd.ntmps27
  go_wp2
  go_loopw [5] (fun i wr => ∃ j : Nat, j ≤ s.size ∧ i = .int .i64 j ∧ c ∉ (L s).take j ∧ wr = w) (fun i _ => s.size - (intOf i).toNat)
  case atStart => exact ⟨0, by omega, rfl, by simp, rfl⟩
  case round =>
    obtain ⟨j, hj, rfl, hn, hwr⟩ := hrel
    subst hwr
    have HN := Lib.hid hn
    clear hn
    by_cases hlt : j < s.size
    · have hix := ix_str s j hlt
      have hl : j < (L s).length := by rw [← size_L]; exact hlt
      have HT := Lib.hid (show (L s).take (j + 1) = (L s).take j ++ [(L s).getD j 0] by rw [List.take_succ_eq_append_getElem hl, getD_at hl])
      have HM := Lib.hid (show (L s).getD j 0 ∈ L s by simp only [List.getD, List.getElem?_eq_getElem hl, Option.getD_some]; exact List.getElem_mem hl)
      generalize (L s).getD j 0 = y at *
      by_cases he : y = c
      · have HX := Lib.hid (show decide (c ∈ L s) = true by rw [decide_eq_true_iff, ← he]; exact HM.out)
        have q := nbeq (congrArg UInt8.toNat he)
        clear he
        go_wp2
        go_ret
        exact ⟨by rw [HX.out]; rfl, rfl⟩
      · have q := nbeq_no (fun e => he (UInt8.toNat_inj.1 e))
        have HX := Lib.hid (show c ∉ (L s).take (j + 1) by
          rw [HT.out, List.mem_append]
          rintro (h | h)
          · exact HN.out h
          · simp at h; exact he h.symm)
        clear he
        go_wp2
        go_roundw
        case rel => exact ⟨j + 1, by omega, by go_num, HX.out, by trivial⟩
        case measure => simp [intOf]; omega
    · have HX := Lib.hid (show decide (c ∈ L s) = false by
        have := HN.out
        rw [List.take_of_length_le (by rw [← size_L]; omega)] at this
        simpa using this)
      go_wp2
      go_ret
      exact ⟨by rw [HX.out]; rfl, by trivial⟩

theorem ext_B (s : ByteArray) (a b : Nat) : s.extract a b = B (((L s).drop a).take (b - a)) := L_inj (by rw [ext_L, L_B])
theorem ext_end (s : ByteArray) (a : Nat) : s.extract a s.size = B ((L s).drop a) := L_inj (by rw [L_B]; exact Lib.extract_to_end s a)
set_option maxHeartbeats 1000000 in
set_option maxRecDepth 100000 in
theorem rhead_any (s : ByteArray) (w : World) (hs : s.size ≤ 9223372036854775807) : Calls Tryd.prog 19 #[.string s] w fun e w' => e = .returned (.tuple #[vS (headW (L s)), vS (headR (L s))]) ∧ ∃ n, w' = w.drewN n := by
  go_enter Tryd.func19, Tryd.ntmps19
  go_wp2
  go_loopw [4] (fun i wr => ∃ j : Nat, j ≤ s.size ∧ i = .int .i64 j ∧ (L s).dropWhile nb = ((L s).drop j).dropWhile nb ∧ wr = w) (fun i _ => s.size - (intOf i).toNat)
  case atStart => exact ⟨0, by omega, rfl, by simp, rfl⟩
  case round =>
    obtain ⟨j, hj, rfl, hn, hwr⟩ := hrel
    subst hwr
    have HN := Lib.hid hn
    clear hn
    by_cases hlt : j < s.size
    · have hix := ix_str s j hlt
      have hl : j < (L s).length := by rw [← size_L]; exact hlt
      have HD := Lib.hid (drop_cons _ _ hl)
      have hrb := rblank_any ((L s).getD j 0)
      cases hb : nb ((L s).getD j 0) with
      | true =>
        rw [hb] at hrb
        have HST := Lib.hid (show (L s).dropWhile nb = ((L s).drop (j + 1)).dropWhile nb by rw [HN.out, HD.out, List.dropWhile_cons_of_pos hb])
        have HRB := Lib.hid hrb
        generalize (L s).getD j 0 = y at *
        clear hrb hb
        go_wp2_with fail
        refine (HRB.out _).mono ?_
        rintro e wx ⟨rfl, hwx⟩
        obtain rfl := hwx.symm
        go_wp2_with fail
        go_roundw
        case rel => exact ⟨j + 1, by omega, by go_num, HST.out, by trivial⟩
        case measure => simp [intOf]; omega
      | false =>
        rw [hb] at hrb
        have HF := Lib.hid (show (L s).dropWhile nb = (L s).drop j by rw [HN.out, HD.out, List.dropWhile_cons_of_neg (by rw [hb]; simp)])
        have HRB := Lib.hid hrb
        generalize (L s).getD j 0 = y at *
        clear hrb hb HD
        go_wp2_with fail
        refine (HRB.out _).mono ?_
        rintro e wx ⟨rfl, hwx⟩
        obtain rfl := hwx.symm
        clear hix
        have i1 : (j : Int) ≤ 9223372036854775807 := by omega
        go_wp2_with fail
        go_loopw [5] (fun i wq => ∃ k : Nat, j ≤ k ∧ k ≤ s.size ∧ i = .int .i64 k ∧ ((L s).drop j).takeWhile (fun c => !nb c) = ((L s).drop j).take (k - j) ++ ((L s).drop k).takeWhile (fun c => !nb c) ∧ ((L s).drop j).dropWhile (fun c => !nb c) = ((L s).drop k).dropWhile (fun c => !nb c) ∧ wq = wr) (fun i _ => s.size - (intOf i).toNat)
        case atStart => exact ⟨j, by omega, by omega, rfl, by simp, rfl, rfl⟩
        case round =>
          obtain ⟨k, hjk, hk, rfl, hn1, hn2, hwr⟩ := hrel
          subst hwr
          have HN1 := Lib.hid hn1
          have HN2 := Lib.hid hn2
          clear hn1 hn2
          have i2 : (k : Int) ≤ 9223372036854775807 := by omega
          have done : (((L s).drop k).takeWhile (fun c => !nb c) = [] ∧ ((L s).drop k).dropWhile (fun c => !nb c) = (L s).drop k) → s.extract j k = B (headW (L s)) ∧ s.extract k s.size = B (headR (L s)) := by
            rintro ⟨d1, d2⟩
            unfold headW headR
            rw [HF.out, HN1.out, HN2.out, d1, d2, List.append_nil, ext_B, ext_end]
            exact ⟨rfl, rfl⟩
          by_cases hlt : k < s.size
          · have hix := ix_str s k hlt
            have hl : k < (L s).length := by rw [← size_L]; exact hlt
            have HD := Lib.hid (drop_cons _ _ hl)
            have hrb := rblank_any ((L s).getD k 0)
            cases hb : nb ((L s).getD k 0) with
            | false =>
              rw [hb] at hrb
              have hst : Hid (((L s).drop j).takeWhile (fun c => !nb c) = ((L s).drop j).take (k + 1 - j) ++ ((L s).drop (k + 1)).takeWhile (fun c => !nb c) ∧ ((L s).drop j).dropWhile (fun c => !nb c) = ((L s).drop (k + 1)).dropWhile (fun c => !nb c)) := Lib.hid (by
                rw [HN1.out, HN2.out, HD.out, List.takeWhile_cons_of_pos (by rw [hb]; rfl), List.dropWhile_cons_of_pos (by rw [hb]; rfl)]
                refine ⟨?_, rfl⟩
                have hl2 : k - j < ((L s).drop j).length := by rw [List.length_drop]; omega
                rw [show k + 1 - j = (k - j) + 1 by omega, List.take_succ_eq_append_getElem hl2, List.append_assoc, List.singleton_append]
                congr 2
                rw [List.getElem_drop, getD_at hl]
                congr 1
                omega)
              have HRB := Lib.hid hrb
              generalize (L s).getD k 0 = y at *
              clear done hrb hb
              go_wp2_with fail
              refine (HRB.out _).mono ?_
              rintro e wx ⟨rfl, hwx⟩
              obtain rfl := hwx.symm
              go_wp2_with fail
              go_roundw
              case rel => exact ⟨k + 1, by omega, by omega, by go_num, hst.out.1, hst.out.2, by trivial⟩
              case measure => simp [intOf]; omega
            | true =>
              rw [hb] at hrb
              have HR := Lib.hid (done (by rw [HD.out, List.takeWhile_cons_of_neg (by rw [hb]; simp), List.dropWhile_cons_of_neg (by rw [hb]; simp)]; exact ⟨rfl, rfl⟩))
              have HRB := Lib.hid hrb
              generalize (L s).getD k 0 = y at *
              clear done hrb hb
              go_wp2_with fail
              refine (HRB.out _).mono ?_
              rintro e wx ⟨rfl, hwx⟩
              obtain rfl := hwx.symm
              go_wp2_with fail
              go_quiet (fail)
              go_wp2_with fail
              go_ret2
              exact ⟨by show _ = Ending.returned (.tuple #[.string (B (headW (L s))), .string (B (headR (L s)))]); rw [← HR.out.1, ← HR.out.2]; rfl, _, rfl⟩
          · have HR := Lib.hid (done (by rw [List.drop_eq_nil_of_le (by rw [← size_L]; omega)]; exact ⟨rfl, rfl⟩))
            clear done
            go_wp2_with fail
            go_quiet (fail)
            go_wp2_with fail
            go_ret2
            exact ⟨by show _ = Ending.returned (.tuple #[.string (B (headW (L s))), .string (B (headR (L s)))]); rw [← HR.out.1, ← HR.out.2]; rfl, _, rfl⟩
    · have HF := Lib.hid (show (L s).dropWhile nb = (L s).drop j by rw [HN.out, List.drop_eq_nil_of_le (by rw [← size_L]; omega)]; rfl)
      go_wp2_with fail
      have i1 : (j : Int) ≤ 9223372036854775807 := by omega
      go_wp2_with fail
      go_loopw [5] (fun i wq => ∃ k : Nat, j ≤ k ∧ k ≤ s.size ∧ i = .int .i64 k ∧ ((L s).drop j).takeWhile (fun c => !nb c) = ((L s).drop j).take (k - j) ++ ((L s).drop k).takeWhile (fun c => !nb c) ∧ ((L s).drop j).dropWhile (fun c => !nb c) = ((L s).drop k).dropWhile (fun c => !nb c) ∧ wq = wr) (fun i _ => s.size - (intOf i).toNat)
      case atStart => exact ⟨j, by omega, by omega, rfl, by simp, rfl, rfl⟩
      case round =>
        obtain ⟨k, hjk, hk, rfl, hn1, hn2, hwr⟩ := hrel
        subst hwr
        have HN1 := Lib.hid hn1
        have HN2 := Lib.hid hn2
        clear hn1 hn2
        have i2 : (k : Int) ≤ 9223372036854775807 := by omega
        have done : (((L s).drop k).takeWhile (fun c => !nb c) = [] ∧ ((L s).drop k).dropWhile (fun c => !nb c) = (L s).drop k) → s.extract j k = B (headW (L s)) ∧ s.extract k s.size = B (headR (L s)) := by
          rintro ⟨d1, d2⟩
          unfold headW headR
          rw [HF.out, HN1.out, HN2.out, d1, d2, List.append_nil, ext_B, ext_end]
          exact ⟨rfl, rfl⟩
        by_cases hlt : k < s.size
        · have hix := ix_str s k hlt
          have hl : k < (L s).length := by rw [← size_L]; exact hlt
          have HD := Lib.hid (drop_cons _ _ hl)
          have hrb := rblank_any ((L s).getD k 0)
          cases hb : nb ((L s).getD k 0) with
          | false =>
            rw [hb] at hrb
            have hst : Hid (((L s).drop j).takeWhile (fun c => !nb c) = ((L s).drop j).take (k + 1 - j) ++ ((L s).drop (k + 1)).takeWhile (fun c => !nb c) ∧ ((L s).drop j).dropWhile (fun c => !nb c) = ((L s).drop (k + 1)).dropWhile (fun c => !nb c)) := Lib.hid (by
              rw [HN1.out, HN2.out, HD.out, List.takeWhile_cons_of_pos (by rw [hb]; rfl), List.dropWhile_cons_of_pos (by rw [hb]; rfl)]
              refine ⟨?_, rfl⟩
              have hl2 : k - j < ((L s).drop j).length := by rw [List.length_drop]; omega
              rw [show k + 1 - j = (k - j) + 1 by omega, List.take_succ_eq_append_getElem hl2, List.append_assoc, List.singleton_append]
              congr 2
              rw [List.getElem_drop, getD_at hl]
              congr 1
              omega)
            have HRB := Lib.hid hrb
            generalize (L s).getD k 0 = y at *
            clear done hrb hb
            go_wp2_with fail
            refine (HRB.out _).mono ?_
            rintro e wx ⟨rfl, hwx⟩
            obtain rfl := hwx.symm
            go_wp2_with fail
            go_roundw
            case rel => exact ⟨k + 1, by omega, by omega, by go_num, hst.out.1, hst.out.2, by trivial⟩
            case measure => simp [intOf]; omega
          | true =>
            rw [hb] at hrb
            have HR := Lib.hid (done (by rw [HD.out, List.takeWhile_cons_of_neg (by rw [hb]; simp), List.dropWhile_cons_of_neg (by rw [hb]; simp)]; exact ⟨rfl, rfl⟩))
            have HRB := Lib.hid hrb
            generalize (L s).getD k 0 = y at *
            clear done hrb hb
            go_wp2_with fail
            refine (HRB.out _).mono ?_
            rintro e wx ⟨rfl, hwx⟩
            obtain rfl := hwx.symm
            go_wp2_with fail
            go_quiet (fail)
            go_wp2_with fail
            go_ret2
            exact ⟨by show _ = Ending.returned (.tuple #[.string (B (headW (L s))), .string (B (headR (L s)))]); rw [← HR.out.1, ← HR.out.2]; rfl, _, rfl⟩
        · have HR := Lib.hid (done (by rw [List.drop_eq_nil_of_le (by rw [← size_L]; omega)]; exact ⟨rfl, rfl⟩))
          clear done
          go_wp2_with fail
          go_quiet (fail)
          go_wp2_with fail
          go_ret2
          exact ⟨by show _ = Ending.returned (.tuple #[.string (B (headW (L s))), .string (B (headR (L s)))]); rw [← HR.out.1, ← HR.out.2]; rfl, _, rfl⟩
end Go.Proofs.YtcfdphfochfeoaaDoor.Li
