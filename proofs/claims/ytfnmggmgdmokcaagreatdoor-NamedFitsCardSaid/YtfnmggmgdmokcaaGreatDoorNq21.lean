/- Merged texts: De3, De4, NaP, Na1. -/
import Derived.Test.YtfnmggmgdmokcaaGreatDoorNq20
import Derived.Lib.QuietBelow
set_option linter.unusedVariables false
/- Walks of numbers' texts: digits, next, Take, Parse of the program. -/
namespace Go.Proofs.YtfnmggmgdmokcaaGreatDoor.De
open Go.RowKit Go.Proofs.YtfnmggmgdmokcaaGreatDoor.Li

theorem ix_two (l : List UInt8) (i j : Nat) (h : i + j < l.length) (W : World) : (Instr.index 9 (vS l) (.int .i64 ((i : Int) + (j : Int)))).run Tryz.prog W = .ok (.int .u8 ((l.getD (i + j) 0).toNat : Int)) W := by
  have := ix_str (B l) (i + j) (by rw [size_B]; exact h) W
  rw [Int.natCast_add] at this
  exact this
theorem tw_cons_yes {l : List UInt8} {i : Nat} (h : i < l.length) (hd : isD (l.getD i 0) = true) : ((l.drop i).takeWhile isD).length = 1 + ((l.drop (i + 1)).takeWhile isD).length := by
  rw [drop_cons _ _ h, List.takeWhile_cons_of_pos hd, List.length_cons]; omega
theorem tw_cons_no {l : List UInt8} {i : Nat} (h : i < l.length) (hd : isD (l.getD i 0) = false) : ((l.drop i).takeWhile isD).length = 0 := by
  rw [drop_cons _ _ h, List.takeWhile_cons_of_neg (by rw [hd]; simp)]; rfl
theorem notD {c : UInt8} (h : ¬ (48 ≤ c.toNat ∧ c.toNat ≤ 57)) : isD c = false := by
  cases hq : isD c with
  | false => rfl
  | true => exact absurd ((isD_iff c).1 hq) h
set_option maxRecDepth 100000 in
set_option maxHeartbeats 1000000 in
theorem digits_any (l : List UInt8) (i : Nat) (hi : i ≤ l.length) (hl : l.length ≤ 4096) (w : World) : Calls Tryz.prog 44 #[vS l, .int .i64 (i : Int)] w fun e w' => e = .returned (.int .i64 (((l.drop i).takeWhile isD).length : Int)) ∧ w' = w := by
  have hsB := size_B l
  go_enter Tryz.func44, Tryz.ntmps44
  go_wp2_with fail
  go_loopw [5] (fun n wr => ∃ j : Nat, i + j ≤ l.length ∧ n = .int .i64 (j : Int) ∧ ((l.drop i).takeWhile isD).length = j + ((l.drop (i + j)).takeWhile isD).length ∧ wr = w) (fun n _ => l.length - (intOf n).toNat)
  case atStart => exact ⟨0, by omega, rfl, by simp, rfl⟩
  case round =>
    obtain ⟨j, hj, rfl, hn, hwr⟩ := hrel
    subst hwr
    have HN := Lib.hid hn
    clear hn
    by_cases hlt : i + j < l.length
    · have hix := ix_two l i j hlt
      have i1 : (i : Int) + (j : Int) < (l.length : Int) := by omega
      have hyes := Lib.hid (fun h => tw_cons_yes hlt h)
      have hno := Lib.hid (fun h => tw_cons_no hlt h)
      have hiff := Lib.hid (isD_iff (l.getD (i + j) 0))
      generalize l.getD (i + j) 0 = c at *
      by_cases h48 : 48 ≤ c.toNat
      · have i2 : (48 : Int) ≤ (c.toNat : Int) := by omega
        by_cases h57 : c.toNat ≤ 57
        · have i3 : (c.toNat : Int) ≤ 57 := by omega
          have HS := Lib.hid (show ((l.drop i).takeWhile isD).length = (j + 1) + ((l.drop (i + (j + 1))).takeWhile isD).length by rw [HN.out, hyes.out (hiff.out.2 ⟨h48, h57⟩)]; simp only [Nat.add_assoc])
          clear hyes hno hiff
          go_wp2_with fail
          go_roundw
          case rel => exact ⟨j + 1, by omega, by go_num, HS.out, by trivial⟩
          case measure => simp [intOf]; omega
        · have i3 : ¬ (c.toNat : Int) ≤ 57 := by omega
          have HS := Lib.hid (show ((l.drop i).takeWhile isD).length = j by rw [HN.out, hno.out (notD (fun hq => h57 hq.2)), Nat.add_zero])
          clear hyes hno hiff
          go_wp2_with fail
          go_ret
          exact ⟨by rw [HS.out]; rfl, by trivial⟩
      · have i2 : ¬ (48 : Int) ≤ (c.toNat : Int) := by omega
        have HS := Lib.hid (show ((l.drop i).takeWhile isD).length = j by rw [HN.out, hno.out (notD (fun hq => h48 hq.1)), Nat.add_zero])
        clear hyes hno hiff
        go_wp2_with fail
        go_ret
        exact ⟨by rw [HS.out]; rfl, by trivial⟩
    · have i1 : ¬ (i : Int) + (j : Int) < (l.length : Int) := by omega
      have HS := Lib.hid (show ((l.drop i).takeWhile isD).length = j by rw [HN.out, List.drop_eq_nil_of_le (by omega)]; rfl)
      go_wp2_with fail
      go_ret
      exact ⟨by rw [HS.out]; rfl, by trivial⟩
theorem next_neg (v d : Nat) (hv : v ≤ 9223372036854775808) (hd : d < 10) (w : World) : Calls Tryz.prog 45 #[.int .i64 (-(v : Int)), .int .i64 (d : Int), .bool true] w fun e w' =>
    e = .returned (.tuple (if 10 * v + d ≤ 9223372036854775808 then #[.int .i64 (-((10 * v + d : Nat) : Int)), .bool true] else #[.int .i64 (-(v : Int)), .bool false])) ∧ w' = w := by
  have ht : (-9223372036854775808 + (d : Int)).tdiv 10 = -(((9223372036854775808 - d) / 10 : Nat) : Int) := by
    have : (-9223372036854775808 + (d : Int)) = -((9223372036854775808 - d : Nat) : Int) := by omega
    rw [this, Int.neg_tdiv]
    simp [Int.ofNat_tdiv]
  have hw := IntWalk.i64_in (-(((9223372036854775808 - d) / 10 : Nat) : Int)) (by omega)
  have i0 : (d : Int) < 10 := by omega
  have i1 : (0 : Int) ≤ (d : Int) := by omega
  have i2 : (v : Int) ≤ 9223372036854775808 := by omega
  by_cases h : 10 * v + d ≤ 9223372036854775808
  · rw [if_pos h]
    have q : ¬ -(v : Int) < -(((9223372036854775808 - d) / 10 : Nat) : Int) := by omega
    have HE := Lib.hid (show -(v : Int) * 10 - (d : Int) = -(10 * (v : Int) + (d : Int)) by omega)
    have i3 : -9223372036854775808 ≤ -(v : Int) * 10 := by omega
    have i4 : -9223372036854775808 ≤ -(v : Int) * 10 - (d : Int) := by omega
    generalize (((9223372036854775808 - d) / 10 : Nat) : Int) = z at *
    clear h
    go_enter Tryz.func45, Tryz.ntmps45
    go_wp2_with fail
    go_ret2
    exact ⟨by rw [← HE.out]; rfl, rfl⟩
  · rw [if_neg h]
    have q : -(v : Int) < -(((9223372036854775808 - d) / 10 : Nat) : Int) := by omega
    generalize (((9223372036854775808 - d) / 10 : Nat) : Int) = z at *
    clear h
    go_enter Tryz.func45, Tryz.ntmps45
    go_wp2_with fail
    go_ret2
    exact ⟨rfl, rfl⟩
theorem next_pos (v d : Nat) (hv : v ≤ 9223372036854775807) (hd : d < 10) (w : World) : Calls Tryz.prog 45 #[.int .i64 (v : Int), .int .i64 (d : Int), .bool false] w fun e w' =>
    e = .returned (.tuple (if 10 * v + d ≤ 9223372036854775807 then #[.int .i64 ((10 * v + d : Nat) : Int), .bool true] else #[.int .i64 (v : Int), .bool false])) ∧ w' = w := by
  have ht : (9223372036854775807 - (d : Int)).tdiv 10 = (((9223372036854775807 - d) / 10 : Nat) : Int) := by
    have : (9223372036854775807 - (d : Int)) = ((9223372036854775807 - d : Nat) : Int) := by omega
    rw [this]
    simp [Int.ofNat_tdiv]
  have ht2 : (9223372036854775807 - (d : Int)) / 10 = (((9223372036854775807 - d) / 10 : Nat) : Int) := by omega
  have hw := IntWalk.i64_in ((((9223372036854775807 - d) / 10 : Nat) : Int)) (by omega)
  have i0 : (d : Int) < 10 := by omega
  have i1 : (0 : Int) ≤ (d : Int) := by omega
  have i2 : (v : Int) ≤ 9223372036854775807 := by omega
  have i5 : (0 : Int) ≤ (v : Int) := by omega
  by_cases h : 10 * v + d ≤ 9223372036854775807
  · rw [if_pos h]
    have q : ¬ (((9223372036854775807 - d) / 10 : Nat) : Int) < (v : Int) := by omega
    have HE := Lib.hid (show (v : Int) * 10 + (d : Int) = 10 * (v : Int) + (d : Int) by omega)
    have i3 : (v : Int) * 10 ≤ 9223372036854775807 := by omega
    have i4 : (v : Int) * 10 + (d : Int) ≤ 9223372036854775807 := by omega
    generalize (((9223372036854775807 - d) / 10 : Nat) : Int) = z at *
    clear h
    go_enter Tryz.func45, Tryz.ntmps45
    go_wp2_with fail
    go_ret2
    exact ⟨by rw [← HE.out]; rfl, rfl⟩
  · rw [if_neg h]
    have q : (((9223372036854775807 - d) / 10 : Nat) : Int) < (v : Int) := by omega
    generalize (((9223372036854775807 - d) / 10 : Nat) : Int) = z at *
    clear h
    go_enter Tryz.func45, Tryz.ntmps45
    go_wp2_with fail
    go_ret2
    exact ⟨rfl, rfl⟩

theorem prefix45 (l : List UInt8) : Lib.hasPrefix l [45] = decide (l.head? = some 45) := by
  unfold Lib.hasPrefix
  cases l with
  | nil => rfl
  | cons c t =>
    by_cases h : c = 45
    · subst h; simp [List.isPrefixOf]
    · have h' : ¬ (45 : UInt8) = c := fun e => h e.symm
      simp [List.isPrefixOf, h, h']
theorem prefix_any (l : List UInt8) (w : World) : Calls Tryz.prog 43 #[vS l, .string ⟨#[45]⟩] w fun e w' => e = .returned (.bool (decide (l.head? = some 45))) ∧ w' = w := by
  have := Tryz.strings_HasPrefix (B l) ⟨#[45]⟩ w
  rw [show Lib.hasPrefix (B l).data.toList (⟨#[45]⟩ : ByteArray).data.toList = decide (l.head? = some 45) from prefix45 l] at this
  exact this
theorem val_succ {l : List UInt8} {k : Nat} (h : k < l.length) : val (l.take (k + 1)) = 10 * val (l.take k) + dv (l.getD k 0) := by
  rw [List.take_succ_eq_append_getElem h, val_snoc, getD_at h]
theorem isD_tw {l : List UInt8} {k : Nat} (h : k < (l.takeWhile isD).length) : k < l.length ∧ isD (l.getD k 0) = true := by
  have hl := len_split isD l
  have hk : k < l.length := by omega
  refine ⟨hk, ?_⟩
  rw [getD_at hk]
  exact all_take isD l (k + 1) h l[k] (by rw [List.take_succ_eq_append_getElem hk]; exact List.mem_append_right _ (List.mem_singleton.2 rfl))
set_option maxRecDepth 100000 in
set_option maxHeartbeats 2000000 in
theorem take_pos_any (l : List UInt8) (hl : l.length ≤ 4096) (h45 : l.head? ≠ some 45) (w : World) : Calls Tryz.prog 31 #[vS l] w fun e w' => e = .returned (.tuple #[.int .i64 (take l).1, .int .i64 ((take l).2 : Int)]) ∧ w' = w := by
  have hsB := size_B l
  have HP := Lib.hid (show Calls Tryz.prog 43 #[vS l, .string ⟨#[45]⟩] w fun e w' => e = .returned (.bool false) ∧ w' = w by
    have := prefix_any l w
    rw [decide_eq_false h45] at this
    exact this)
  have HD := Lib.hid (show Calls Tryz.prog 44 #[vS l, .int .i64 0] w fun e w' => e = .returned (.int .i64 ((l.takeWhile isD).length : Int)) ∧ w' = w from digits_any l 0 (Nat.zero_le _) hl w)
  obtain ⟨T1, T2, T3⟩ := take_pos h45
  have hml := len_split isD l
  obtain ⟨m, hm⟩ : ∃ m, (l.takeWhile isD).length = m := ⟨_, rfl⟩
  by_cases h0 : m = 0
  · rw [T1 (by omega)]
    rw [hm, h0] at HD
    clear T1 T2 T3 hm hml h45
    go_enter Tryz.func31, Tryz.ntmps31
    go_wp2_with fail
    refine (HP.out).mono ?_
    rintro e wx ⟨rfl, hwx⟩
    obtain rfl := hwx.symm
    go_wp2_with fail
    refine (HD.out).mono ?_
    rintro e wx ⟨rfl, hwx⟩
    obtain rfl := hwx.symm
    go_wp2_with fail
    go_ret2
    exact ⟨rfl, rfl⟩
  · obtain ⟨hk0, hd0⟩ := isD_tw (l := l) (k := 0) (by omega)
    have hix0 : ∀ W, (Instr.index 9 (vS l) (.int .i64 0)).run Tryz.prog W = .ok (.int .u8 ((l.getD 0 0).toNat : Int)) W := fun W => ix_str (B l) 0 (by rw [hsB]; exact hk0) W
    have hh0 : l.head? = some (l.getD 0 0) := by cases l with
      | nil => simp at hk0
      | cons c t => rfl
    rw [isD_iff] at hd0
    have hm0 : ((m : Int) == 0) = false := nbeq_no h0
    by_cases h48 : l.getD 0 0 = 48
    · rw [T2 (by omega) (by rw [hh0, h48])]
      rw [h48] at hix0
      rw [hm] at HD
      clear T1 T2 T3 hm hml h45 hh0 hd0 h48
      go_enter Tryz.func31, Tryz.ntmps31
      go_wp2_with fail
      refine (HP.out).mono ?_
      rintro e wx ⟨rfl, hwx⟩
      obtain rfl := hwx.symm
      go_wp2_with fail
      refine (HD.out).mono ?_
      rintro e wx ⟨rfl, hwx⟩
      obtain rfl := hwx.symm
      go_wp2_with fail
      go_ret2
      exact ⟨rfl, rfl⟩
    · have T3' := Lib.hid (fun i h1 h2 h3 => T3 i h1 h2 (by rw [hh0]; exact fun e => h48 (Option.some.inj e)) h3)
      have hne : (((l.getD 0 0).toNat : Int) == 48) = false := ibeq_no (fun e => h48 (UInt8.toNat_inj.1 (by have : (48 : UInt8).toNat = 48 := rfl; omega)))
      rw [hm] at HD
      have HM := Lib.hid hm
      clear T1 T2 T3 hm hh0 hd0 h48 h45
      generalize (l.getD 0 0).toNat = c0 at *
      go_enter Tryz.func31, Tryz.ntmps31
      go_wp2_with fail
      refine (HP.out).mono ?_
      rintro e wx ⟨rfl, hwx⟩
      obtain rfl := hwx.symm
      go_wp2_with fail
      refine (HD.out).mono ?_
      rintro e wx ⟨rfl, hwx⟩
      obtain rfl := hwx.symm
      go_wp2_with fail
      clear hix0 hne
      go_loopw [7, 34] (fun n kk wr => ∃ k : Nat, k ≤ m ∧ kk = .int .i64 (k : Int) ∧ n = .int .i64 (val (l.take k) : Int) ∧ val (l.take k) ≤ 9223372036854775807 ∧ wr = w) (fun _ kk _ => m - (intOf kk).toNat)
      case atStart => exact ⟨0, Nat.zero_le _, rfl, by simp [val_nil], by simp [val_nil], rfl⟩
      case round =>
        obtain ⟨k, hk, rfl, rfl, hv, hwr⟩ := hrel
        subst hwr
        by_cases hlt : k < m
        · obtain ⟨hk1, hdk⟩ := isD_tw (l := l) (k := k) (by have := HM.out; omega)
          have HV := Lib.hid (val_succ hk1)
          have hix : ∀ W, (Instr.index 9 (vS l) (.int .i64 (k : Int))).run Tryz.prog W = .ok (.int .u8 (48 + (dv (l.getD k 0) : Int))) W := fun W => by
            have := ix_str (B l) k (by rw [hsB]; exact hk1) W
            rw [L_B, show ((l.getD k 0).toNat : Int) = 48 + (dv (l.getD k 0) : Int) by rw [isD_iff] at hdk; unfold dv; omega] at this
            exact this
          have hd9 := dv_lt hdk
          have HN := Lib.hid (next_pos (val (l.take k)) (dv (l.getD k 0)) hv hd9)
          have i1 : (k : Int) < (m : Int) := by omega
          have i2 : ((dv (l.getD k 0) : Nat) : Int) ≤ 9 := by omega
          have HVK := Lib.hid (show k = 0 → val (l.take k) = 0 by rintro rfl; simp [val_nil])
          have HE := Lib.hid (fun h1 h2 => T3'.out k h1 (by rw [HM.out]; omega) hv (.inr h2))
          rw [HV.out] at HE
          generalize dv (l.getD k 0) = d at *
          generalize val (l.take k) = v at *
          have e48 : (48 : Int) + (d : Int) - 48 = (d : Int) := by omega
          by_cases hfit : 10 * v + d ≤ 9223372036854775807
          · have HN : Hid (∀ W, Calls Tryz.prog 45 #[.int .i64 (v : Int), .int .i64 (d : Int), .bool false] W fun e w' => e = .returned (.tuple #[.int .i64 ((10 * v + d : Nat) : Int), .bool true]) ∧ w' = W) := Lib.hid (fun W => by have := HN.out W; rw [if_pos hfit] at this; exact this)
            clear HE
            go_wp2_with fail
            refine (HN.out _).mono ?_
            rintro e wx ⟨rfl, hwx⟩
            obtain rfl := hwx.symm
            go_wp2_with fail
            go_roundw
            case rel => exact ⟨k + 1, by omega, by go_num, by rw [HV.out]; simp, by rw [HV.out]; exact hfit, by trivial⟩
            case measure => simp [intOf]; omega
          · have HN : Hid (∀ W, Calls Tryz.prog 45 #[.int .i64 (v : Int), .int .i64 (d : Int), .bool false] W fun e w' => e = .returned (.tuple #[.int .i64 (v : Int), .bool false]) ∧ w' = W) := Lib.hid (fun W => by have := HN.out W; rw [if_neg hfit] at this; exact this)
            have hk0' : 1 ≤ k := by
              by_cases h : k = 0
              · have := HVK.out h; omega
              · omega
            have HE := Lib.hid (HE.out hk0' (by omega))
            go_wp2_with fail
            refine (HN.out _).mono ?_
            rintro e wx ⟨rfl, hwx⟩
            obtain rfl := hwx.symm
            go_wp2_with fail
            go_ret2
            exact ⟨by rw [HE.out]; rfl, by trivial⟩
        · obtain rfl : k = m := by omega
          have HE := Lib.hid (T3'.out k (by omega) (by rw [HM.out]; omega) hv (.inl HM.out.symm))
          generalize val (l.take k) = v at *
          have i3 : (k : Int) ≤ 4096 := by have := HM.out; omega
          go_wp2_with fail
          go_ret2
          exact ⟨by rw [HE.out]; rfl, by trivial⟩
set_option maxRecDepth 100000 in
set_option maxHeartbeats 2000000 in
theorem take_neg_any (l : List UInt8) (hl : l.length + 1 ≤ 4096) (w : World) : Calls Tryz.prog 31 #[vS (45 :: l)] w fun e w' => e = .returned (.tuple #[.int .i64 (take (45 :: l)).1, .int .i64 ((take (45 :: l)).2 : Int)]) ∧ w' = w := by
  have hsB := size_B (45 :: l)
  rw [List.length_cons] at hsB
  have HP := Lib.hid (show Calls Tryz.prog 43 #[vS (45 :: l), .string ⟨#[45]⟩] w fun e w' => e = .returned (.bool true) ∧ w' = w from prefix_any (45 :: l) w)
  have HD := Lib.hid (show Calls Tryz.prog 44 #[vS (45 :: l), .int .i64 1] w fun e w' => e = .returned (.int .i64 ((l.takeWhile isD).length : Int)) ∧ w' = w from digits_any (45 :: l) 1 (by simp) (by simpa using hl) w)
  obtain ⟨T1, T2, T3⟩ := take_neg l
  have hml := len_split isD l
  obtain ⟨m, hm⟩ : ∃ m, (l.takeWhile isD).length = m := ⟨_, rfl⟩
  by_cases h0 : m = 0
  · rw [T1 (by omega)]
    rw [hm, h0] at HD
    clear T1 T2 T3 hm hml
    go_enter Tryz.func31, Tryz.ntmps31
    go_wp2_with fail
    refine (HP.out).mono ?_
    rintro e wx ⟨rfl, hwx⟩
    obtain rfl := hwx.symm
    go_wp2_with fail
    refine (HD.out).mono ?_
    rintro e wx ⟨rfl, hwx⟩
    obtain rfl := hwx.symm
    go_wp2_with fail
    go_ret2
    exact ⟨rfl, rfl⟩
  · obtain ⟨hk0, hd0⟩ := isD_tw (l := l) (k := 0) (by omega)
    have hix0 : ∀ W, (Instr.index 9 (vS (45 :: l)) (.int .i64 1)).run Tryz.prog W = .ok (.int .u8 ((l.getD 0 0).toNat : Int)) W := fun W => ix_str (B (45 :: l)) 1 (by rw [hsB]; omega) W
    have hh0 : l.head? = some (l.getD 0 0) := by cases l with
      | nil => simp at hk0
      | cons c t => rfl
    rw [isD_iff] at hd0
    have hm0 : ((m : Int) == 0) = false := nbeq_no h0
    by_cases h48 : l.getD 0 0 = 48
    · rw [T2 (by rw [hh0, h48])]
      rw [h48] at hix0
      rw [hm] at HD
      clear T1 T2 T3 hm hml hh0 hd0 h48
      go_enter Tryz.func31, Tryz.ntmps31
      go_wp2_with fail
      refine (HP.out).mono ?_
      rintro e wx ⟨rfl, hwx⟩
      obtain rfl := hwx.symm
      go_wp2_with fail
      refine (HD.out).mono ?_
      rintro e wx ⟨rfl, hwx⟩
      obtain rfl := hwx.symm
      go_wp2_with fail
      go_ret2
      exact ⟨rfl, rfl⟩
    · have T3' := Lib.hid (fun i h1 h2 h3 => T3 i h1 h2 (by rw [hh0]; exact fun e => h48 (Option.some.inj e)) h3)
      have hne : (((l.getD 0 0).toNat : Int) == 48) = false := ibeq_no (fun e => h48 (UInt8.toNat_inj.1 (by have : (48 : UInt8).toNat = 48 := rfl; omega)))
      rw [hm] at HD
      have HM := Lib.hid hm
      clear T1 T2 T3 hm hh0 hd0 h48
      generalize (l.getD 0 0).toNat = c0 at *
      go_enter Tryz.func31, Tryz.ntmps31
      go_wp2_with fail
      refine (HP.out).mono ?_
      rintro e wx ⟨rfl, hwx⟩
      obtain rfl := hwx.symm
      go_wp2_with fail
      refine (HD.out).mono ?_
      rintro e wx ⟨rfl, hwx⟩
      obtain rfl := hwx.symm
      go_wp2_with fail
      clear hix0 hne
      go_loopw [7, 34] (fun n kk wr => ∃ k : Nat, k ≤ m ∧ kk = .int .i64 (k : Int) ∧ n = .int .i64 (-(val (l.take k) : Int)) ∧ val (l.take k) ≤ 9223372036854775808 ∧ wr = w) (fun _ kk _ => m - (intOf kk).toNat)
      case atStart => exact ⟨0, Nat.zero_le _, rfl, by simp [val_nil], by simp [val_nil], rfl⟩
      case round =>
        obtain ⟨k, hk, rfl, rfl, hv, hwr⟩ := hrel
        subst hwr
        by_cases hlt : k < m
        · obtain ⟨hk1, hdk⟩ := isD_tw (l := l) (k := k) (by have := HM.out; omega)
          have HV := Lib.hid (val_succ hk1)
          have hix : ∀ W, (Instr.index 9 (vS (45 :: l)) (.int .i64 (1 + (k : Int)))).run Tryz.prog W = .ok (.int .u8 (48 + (dv (l.getD k 0) : Int))) W := fun W => by
            have := ix_two (45 :: l) 1 k (by rw [List.length_cons]; omega) W
            rw [show (45 :: l).getD (1 + k) 0 = l.getD k 0 by rw [Nat.add_comm]; rfl, show ((l.getD k 0).toNat : Int) = 48 + (dv (l.getD k 0) : Int) by rw [isD_iff] at hdk; unfold dv; omega] at this
            exact this
          have hd9 := dv_lt hdk
          have HN := Lib.hid (next_neg (val (l.take k)) (dv (l.getD k 0)) hv hd9)
          have i1 : (k : Int) < (m : Int) := by omega
          have i2 : ((dv (l.getD k 0) : Nat) : Int) ≤ 9 := by omega
          have HVK := Lib.hid (show k = 0 → val (l.take k) = 0 by rintro rfl; simp [val_nil])
          have HE := Lib.hid (fun h1 h2 => T3'.out k h1 (by rw [HM.out]; omega) hv (.inr h2))
          rw [HV.out] at HE
          generalize dv (l.getD k 0) = d at *
          generalize val (l.take k) = v at *
          have e48 : (48 : Int) + (d : Int) - 48 = (d : Int) := by omega
          by_cases hfit : 10 * v + d ≤ 9223372036854775808
          · have HN : Hid (∀ W, Calls Tryz.prog 45 #[.int .i64 (-(v : Int)), .int .i64 (d : Int), .bool true] W fun e w' => e = .returned (.tuple #[.int .i64 (-((10 * v + d : Nat) : Int)), .bool true]) ∧ w' = W) := Lib.hid (fun W => by have := HN.out W; rw [if_pos hfit] at this; exact this)
            clear HE
            go_wp2_with fail
            refine (HN.out _).mono ?_
            rintro e wx ⟨rfl, hwx⟩
            obtain rfl := hwx.symm
            go_wp2_with fail
            go_roundw
            case rel => exact ⟨k + 1, by omega, by go_num, by rw [HV.out]; simp, by rw [HV.out]; exact hfit, by trivial⟩
            case measure => simp [intOf]; omega
          · have HN : Hid (∀ W, Calls Tryz.prog 45 #[.int .i64 (-(v : Int)), .int .i64 (d : Int), .bool true] W fun e w' => e = .returned (.tuple #[.int .i64 (-(v : Int)), .bool false]) ∧ w' = W) := Lib.hid (fun W => by have := HN.out W; rw [if_neg hfit] at this; exact this)
            have hk0' : 1 ≤ k := by
              by_cases h : k = 0
              · have := HVK.out h; omega
              · omega
            have HE := Lib.hid (HE.out hk0' (by omega))
            go_wp2_with fail
            refine (HN.out _).mono ?_
            rintro e wx ⟨rfl, hwx⟩
            obtain rfl := hwx.symm
            go_wp2_with fail
            go_ret2
            exact ⟨by rw [HE.out]; show _ = Ending.returned (.tuple #[.int .i64 (-(v : Int)), .int .i64 ((k + 1 : Nat) : Int)]); rw [Int.natCast_add, Int.add_comm]; rfl, by trivial⟩
        · obtain rfl : k = m := by omega
          have HE := Lib.hid (T3'.out k (by omega) (by rw [HM.out]; omega) hv (.inl HM.out.symm))
          generalize val (l.take k) = v at *
          have i3 : (k : Int) ≤ 4096 := by have := HM.out; omega
          go_wp2_with fail
          go_ret2
          exact ⟨by rw [HE.out]; show _ = Ending.returned (.tuple #[.int .i64 (-(v : Int)), .int .i64 ((k + 1 : Nat) : Int)]); rw [Int.natCast_add, Int.add_comm]; rfl, by trivial⟩
end Go.Proofs.YtfnmggmgdmokcaaGreatDoor.De

/- Walks of numbers' texts: Parse of the program and of the reference, Take of the reference. -/
namespace Go.Proofs.YtfnmggmgdmokcaaGreatDoor.De
open Go.RowKit Go.Proofs.YtfnmggmgdmokcaaGreatDoor.Li

theorem take_any (l : List UInt8) (hl : l.length ≤ 4096) (w : World) : Calls Tryz.prog 31 #[vS l] w fun e w' => e = .returned (.tuple #[.int .i64 (take l).1, .int .i64 ((take l).2 : Int)]) ∧ w' = w := by
  by_cases h : l.head? = some 45
  · cases l with
    | nil => cases h
    | cons c t =>
      have : c = 45 := by simpa using h
      subst this
      exact take_neg_any t (by simpa using hl) w
  · exact take_pos_any l hl h w
def pr (s : List UInt8) : Int × Int := match prs s with
  | some n => (n, 0)
  | none => (0, 2)
theorem tk_le (s : List UInt8) : ∀ k, (tk s k).2 ≤ k
  | 0 => Nat.le_refl _
  | k + 1 => by
    unfold tk
    split
    · exact Nat.le_refl _
    · exact Nat.le_trans (tk_le s k) (Nat.le_succ k)
set_option maxHeartbeats 1000000 in
theorem parse_any (l : List UInt8) (hl : l.length ≤ 4096) (w : World) : Calls Tryz.prog 20 #[vS l] w fun e w' => e = .returned (.tuple #[.int .i64 (pr l).1, .int .i64 (pr l).2]) ∧ w' = w := by
  have HT := Lib.hid (take_any l hl w)
  have hpt := prs_take (s := l)
  unfold pr
  have hle := tk_le l (min l.length 20)
  change (take l).2 ≤ _ at hle
  generalize take l = p at *
  obtain ⟨n, k⟩ := p
  simp only at hpt hle HT
  by_cases h0 : k = 0
  · rw [hpt, if_neg (by omega)]
    subst h0
    go_enter Tryz.func20, Tryz.ntmps20
    go_wp2_with fail
    refine (HT.out).mono ?_
    rintro e wx ⟨rfl, hwx⟩
    obtain rfl := hwx.symm
    go_wp2_with fail
    go_ret2
    exact ⟨rfl, rfl⟩
  · have hk0 : ((k : Int) == 0) = false := ibeq_no (by omega)
    by_cases h1 : k = l.length
    · rw [hpt, if_pos ⟨h0, h1⟩]
      have q := nbne_no h1
      have q2 := nbeq h1
      clear hpt hle h0 h1
      go_enter Tryz.func20, Tryz.ntmps20
      go_wp2_with fail
      refine (HT.out).mono ?_
      rintro e wx ⟨rfl, hwx⟩
      obtain rfl := hwx.symm
      go_wp2_with fail
      go_ret2
      exact ⟨rfl, rfl⟩
    · rw [hpt, if_neg (fun h => h1 h.2)]
      have q := nbne h1
      have q2 := nbeq_no h1
      clear hpt hle h0
      go_enter Tryz.func20, Tryz.ntmps20
      go_wp2_with fail
      refine (HT.out).mono ?_
      rintro e wx ⟨rfl, hwx⟩
      obtain rfl := hwx.symm
      go_wp2_with fail
      go_ret2
      exact ⟨rfl, rfl⟩
/-! the reference's Parse -/
theorem pr_ok (l : List UInt8) : (∃ m, prs l = some m ∧ pr l = (m, 0)) ∨ (prs l = none ∧ pr l = (0, 2)) := by
  unfold pr
  cases prs l with
  | none => exact .inr ⟨rfl, rfl⟩
  | some m => exact .inl ⟨m, rfl, rfl⟩
end Go.Proofs.YtfnmggmgdmokcaaGreatDoor.De

/- Names of cohort locks, as lists of bytes: the plain law. -/
namespace Go.Proofs.YtfnmggmgdmokcaaGreatDoor.Na
open Go.Proofs.YtfnmggmgdmokcaaGreatDoor.Li Go.Proofs.YtfnmggmgdmokcaaGreatDoor.De

def nmL : List (List UInt8) := [[66, 79], [84, 75, 84], [80, 84, 76], [77, 67, 83], [67, 76, 72]]
def nm (k : Int) : List UInt8 := nmL.getD (k - 1).toNat []
def kok (k : Int) : Bool := decide (1 ≤ k) && decide (k ≤ 5)
def bok (b : Int) : Bool := decide (0 ≤ b) && decide (b ≤ 1000)
theorem kok_iff {k : Int} : kok k = true ↔ k = 1 ∨ k = 2 ∨ k = 3 ∨ k = 4 ∨ k = 5 := by
  unfold kok
  rw [Bool.and_eq_true, decide_eq_true_iff, decide_eq_true_iff]
  omega
def headN (g l : Int) : List UInt8 := 67 :: 45 :: (nm g ++ 45 :: nm l)
def bodyN (g l par b : Int) : List UInt8 := headN g l ++ 47 :: (txt b ++ 47 :: txt par)
def textN (g l par b : Int) : List UInt8 × Int := if kok g && kok l then (if bok b then (bodyN g l par b, 0) else ([], 1)) else ([], 7)
def cap (c : UInt8) : Bool := decide (65 ≤ c.toNat) && decide (c.toNat ≤ 90)
def caps (l : List UInt8) : Bool := !l.isEmpty && l.all cap
def ixF : List (List UInt8) → List UInt8 → Int → Int
  | [], _, _ => -1
  | x :: r, y, k => if x = y then k else ixF r y (k + 1)
def ixN (y : List UInt8) : Int := ixF nmL y 0
def three (l : List (List UInt8)) : Option (List UInt8 × List UInt8 × List UInt8) := match l with
  | [a, b, c] => some (a, b, c)
  | _ => none
theorem three_some {l : List (List UInt8)} {a b c : List UInt8} (h : three l = some (a, b, c)) : l = [a, b, c] := by
  unfold three at h
  split at h
  · injection h with h
    injection h with h1 h
    injection h with h2 h3
    rw [h1, h2, h3]
  · cases h
theorem three_len {l : List (List UInt8)} (h : l.length = 3) : ∃ a b c, l = [a, b, c] := by
  match l, h with
  | [a, b, c], _ => exact ⟨a, b, c, rfl⟩
theorem three_none {l : List (List UInt8)} (h : l.length ≠ 3) : three l = none := by
  unfold three
  split
  · simp at h
  · rfl
def fillN (x y z : List UInt8) (n par : Int) : (Int × Int × Int × Int) × Int := if x = [67] ∧ caps y = true ∧ caps z = true then
    (if (textN (1 + ixN y) (1 + ixN z) par n).2 = 0 then ((1 + ixN y, 1 + ixN z, par, n), 0) else ((0, 0, 0, 0), (textN (1 + ixN y) (1 + ixN z) par n).2))
  else ((0, 0, 0, 0), 2)
def partsN : Option (List UInt8 × List UInt8 × List UInt8) → Option Int → Option Int → (Int × Int × Int × Int) × Int
  | some (x, y, z), some n, some par => fillN x y z n par
  | _, _, _ => ((0, 0, 0, 0), 2)
def wholeN : Option (List UInt8 × List UInt8 × List UInt8) → (Int × Int × Int × Int) × Int
  | some (a, b, c) => partsN (three (cut 45 [] a)) (prs b) (prs c)
  | none => ((0, 0, 0, 0), 2)
def parseN (s : List UInt8) : (Int × Int × Int × Int) × Int := wholeN (three (cut 47 [] s))
def joinC (c : UInt8) : List (List UInt8) → List UInt8
  | [] => []
  | [x] => x
  | x :: y :: r => x ++ c :: joinC c (y :: r)
theorem joinC_cons (c : UInt8) (x : List UInt8) {r : List (List UInt8)} (h : r ≠ []) : joinC c (x :: r) = x ++ c :: joinC c r := by
  cases r with
  | nil => exact absurd rfl h
  | cons y r => rfl
theorem join_cut (c : UInt8) (l : List UInt8) : ∀ cur, joinC c (cut c cur l) = cur ++ l := by
  induction l with
  | nil => intro cur; simp [cut, joinC]
  | cons b t ih =>
    intro cur
    unfold cut
    by_cases h : b = c
    · subst h
      rw [if_pos rfl, joinC_cons _ _ (cut_ne _ _ _), ih]
      rfl
    · rw [if_neg h, ih, List.append_assoc]
      rfl
theorem txt_no47 (n : Int) : (47 : UInt8) ∉ txt n := by
  intro h
  have hd : ∀ m, (47 : UInt8) ∉ digs m := fun m hm => by
    have := (canon_all (digs_canon m)).2 47 hm
    revert this
    decide
  unfold txt at h
  split at h
  · rcases List.mem_cons.1 h with e | e
    · revert e; decide
    · exact hd _ e
  · exact hd _ h
theorem head_facts {g l : Int} (hg : kok g = true) (hl : kok l = true) : (47 : UInt8) ∉ headN g l ∧ cut 45 [] (headN g l) = [[67], nm g, nm l] := by
  rw [kok_iff] at hg hl
  rcases hg with rfl | rfl | rfl | rfl | rfl <;> rcases hl with rfl | rfl | rfl | rfl | rfl <;> exact ⟨by decide, by rfl⟩
theorem nm_facts {g : Int} (hg : kok g = true) : caps (nm g) = true ∧ 1 + ixN (nm g) = g := by
  rw [kok_iff] at hg
  rcases hg with rfl | rfl | rfl | rfl | rfl <;> exact ⟨by decide, by rfl⟩
theorem cut_body {g l par b : Int} (hg : kok g = true) (hl : kok l = true) : cut 47 [] (bodyN g l par b) = [headN g l, txt b, txt par] := by
  unfold bodyN
  rw [cut_app 47 _ _ (head_facts hg hl).1, cut_app 47 _ _ (txt_no47 b), cut_none 47 _ (txt_no47 par)]
  rfl
theorem parse_text {g l par b : Int} (h : (textN g l par b).2 = 0) (hp : -9223372036854775808 ≤ par ∧ par ≤ 9223372036854775807) : parseN (textN g l par b).1 = ((g, l, par, b), 0) := by
  unfold textN at h
  by_cases hk : (kok g && kok l) = true
  · rw [if_pos hk] at h
    have hk' := hk
    rw [Bool.and_eq_true] at hk'
    obtain ⟨hg, hl⟩ := hk'
    by_cases hb : bok b = true
    · have e : textN g l par b = (bodyN g l par b, 0) := by unfold textN; rw [if_pos hk, if_pos hb]
      have hb' := hb
      unfold bok at hb'
      rw [Bool.and_eq_true, decide_eq_true_iff, decide_eq_true_iff] at hb'
      rw [e]
      show wholeN (three (cut 47 [] (bodyN g l par b))) = _
      rw [cut_body hg hl]
      show partsN (three (cut 45 [] (headN g l))) (prs (txt b)) (prs (txt par)) = _
      rw [(head_facts hg hl).2, prs_txt (show -9223372036854775808 ≤ b ∧ b ≤ 9223372036854775807 by omega), prs_txt hp]
      show fillN [67] (nm g) (nm l) b par = _
      unfold fillN
      rw [if_pos ⟨rfl, (nm_facts hg).1, (nm_facts hl).1⟩, (nm_facts hg).2, (nm_facts hl).2, e, if_pos rfl]
    · rw [if_neg hb] at h
      cases h
  · rw [if_neg hk] at h
    cases h
theorem ixF_at : ∀ (r : List (List UInt8)) (y : List UInt8) (k : Int), 0 ≤ k → 0 ≤ ixF r y k → k ≤ ixF r y k ∧ r.getD (ixF r y k - k).toNat [] = y
  | [], y, k, hk, h => by
    unfold ixF at h
    omega
  | x :: r, y, k, hk, h => by
    unfold ixF at h ⊢
    by_cases e : x = y
    · rw [if_pos e]
      refine ⟨Int.le_refl _, ?_⟩
      rw [Int.sub_self]
      exact e
    · rw [if_neg e] at h ⊢
      obtain ⟨h1, h2⟩ := ixF_at r y (k + 1) (by omega) h
      refine ⟨by omega, ?_⟩
      rw [show (ixF r y (k + 1) - k).toNat = (ixF r y (k + 1) - (k + 1)).toNat + 1 by omega]
      exact h2
theorem nm_ix {y : List UInt8} (h : kok (1 + ixN y) = true) : nm (1 + ixN y) = y := by
  unfold kok at h
  rw [Bool.and_eq_true, decide_eq_true_iff, decide_eq_true_iff] at h
  have := (ixF_at nmL y 0 (Int.le_refl _) (show 0 ≤ ixN y by omega)).2
  unfold nm
  rw [show (1 + ixN y - 1).toNat = (ixF nmL y 0 - 0).toNat by unfold ixN; omega]
  exact this
theorem text_ok {g l par b : Int} (h : (textN g l par b).2 = 0) : (kok g = true ∧ kok l = true) ∧ textN g l par b = (bodyN g l par b, 0) := by
  unfold textN at h ⊢
  by_cases hk : (kok g && kok l) = true
  · rw [if_pos hk] at h ⊢
    refine ⟨Bool.and_eq_true_iff.1 hk, ?_⟩
    by_cases hb : bok b = true
    · rw [if_pos hb]
    · rw [if_neg hb] at h
      cases h
  · rw [if_neg hk] at h
    cases h
def Back (s : List UInt8) (r : (Int × Int × Int × Int) × Int) : Prop := (r.2 = 0 → textN r.1.1 r.1.2.1 r.1.2.2.1 r.1.2.2.2 = (s, 0)) ∧ (r.2 ≠ 0 → r.1 = (0, 0, 0, 0))
theorem Back.bad (s : List UInt8) {k : Int} (h : k ≠ 0) : Back s ((0, 0, 0, 0), k) := ⟨fun e => absurd e h, fun _ => rfl⟩
theorem text_parse (s : List UInt8) : Back s (parseN s) := by
  have hj := join_cut 47 s []
  unfold parseN
  cases h3 : three (cut 47 [] s) with
  | none => exact Back.bad s (by decide)
  | some abc =>
    obtain ⟨a, b, c⟩ := abc
    rw [three_some h3] at hj
    have hj2 := join_cut 45 a []
    show Back s (partsN (three (cut 45 [] a)) (prs b) (prs c))
    cases k3 : three (cut 45 [] a) with
    | none => exact Back.bad s (by decide)
    | some xyz =>
      obtain ⟨x, y, z⟩ := xyz
      rw [three_some k3] at hj2
      cases hb : prs b with
      | none => exact Back.bad s (by decide)
      | some n =>
        cases hc : prs c with
        | none => exact Back.bad s (by decide)
        | some par =>
          show Back s (fillN x y z n par)
          unfold fillN
          by_cases h1 : x = [67] ∧ caps y = true ∧ caps z = true
          · rw [if_pos h1]
            by_cases h0 : (textN (1 + ixN y) (1 + ixN z) par n).2 = 0
            · rw [if_pos h0]
              refine ⟨fun _ => ?_, fun h => absurd rfl h⟩
              obtain ⟨⟨kg, kl⟩, e⟩ := text_ok h0
              show textN (1 + ixN y) (1 + ixN z) par n = (s, 0)
              rw [e]
              congr 1
              unfold bodyN headN
              rw [nm_ix kg, nm_ix kl, ← (prs_some hb).2, ← (prs_some hc).2]
              obtain ⟨rfl, -, -⟩ := h1
              have e2 : s = a ++ 47 :: (b ++ 47 :: c) := hj.symm
              have e3 : a = [67] ++ 45 :: (y ++ 45 :: z) := hj2.symm
              rw [e2, e3]
              rfl
            · rw [if_neg h0]
              exact Back.bad s h0
          · rw [if_neg h1]
            exact Back.bad s (by decide)
theorem body_len {g l par b : Int} (hg : kok g = true) (hl : kok l = true) (hp : -9223372036854775808 ≤ par ∧ par ≤ 9223372036854775807) (hb : -9223372036854775808 ≤ b ∧ b ≤ 9223372036854775807) : (bodyN g l par b).length ≤ 60 := by
  have h1 := txt_len hp
  have h2 := txt_len hb
  have h3 : (headN g l).length ≤ 10 := by
    rw [kok_iff] at hg hl
    rcases hg with rfl | rfl | rfl | rfl | rfl <;> rcases hl with rfl | rfl | rfl | rfl | rfl <;> decide
  unfold bodyN
  simp only [List.length_append, List.length_cons]
  omega
end Go.Proofs.YtfnmggmgdmokcaaGreatDoor.Na

/- Package named: whether there is a kind, whether a text has capitals alone, the names, the name of a lock. -/
namespace Go.Proofs.YtfnmggmgdmokcaaGreatDoor.Na
open Go.RowKit Go.Sort Go.Proofs.YtfnmggmgdmokcaaGreatDoor.Li Go.Proofs.YtfnmggmgdmokcaaGreatDoor.De

def nmA (j : Nat) : List UInt8 := nmL.getD j []
theorem bok_eq (b : Int) : Bud.right b = bok b := by
  unfold Bud.right Bud.inB bok
  rfl
structure Nk (w : World) : Prop where
  mx : ∃ m : Int, w.cell? ⟨1, 0, none⟩ = some (.int .i64 m)
  nm : ∀ j, j < 5 → w.cell? ⟨0, j, none⟩ = some (vS (nmA j))
  sz : 2 ≤ w.heap.size
theorem Nk.step {w w' : World} (h : Nk w) (b : Below w.heap.size w w') : Nk w' := by
  obtain ⟨m, hm⟩ := h.mx
  have hs := h.sz
  exact ⟨⟨m, (b.cell (p := ⟨1, 0, none⟩) (by show 1 < _; omega)).trans hm⟩, fun j hj => (b.cell (p := ⟨0, j, none⟩) (by show 0 < _; omega)).trans (h.nm j hj), Nat.le_trans hs b.size⟩
theorem kind_any (k : Int) (w : World) : Calls Tryz.prog 16 #[.int .i64 k] w fun e w' => e = .returned (.bool (kok k)) ∧ w' = w := by
  by_cases h1 : 1 ≤ k
  · by_cases h5 : k ≤ 5
    · have HK := Lib.hid (show kok k = true by unfold kok; rw [decide_eq_true h1, decide_eq_true h5]; rfl)
      go_enter Tryz.func16, Tryz.ntmps16
      go_wp2_with fail
      go_ret
      exact ⟨by rw [HK.out]; rfl, rfl⟩
    · have HK := Lib.hid (show kok k = false by unfold kok; rw [decide_eq_false h5, Bool.and_false])
      go_enter Tryz.func16, Tryz.ntmps16
      go_wp2_with fail
      go_ret
      exact ⟨by rw [HK.out]; rfl, rfl⟩
  · have HK := Lib.hid (show kok k = false by unfold kok; rw [decide_eq_false h1, Bool.false_and])
    go_enter Tryz.func16, Tryz.ntmps16
    go_wp2_with fail
    go_ret
    exact ⟨by rw [HK.out]; rfl, rfl⟩
def CpJ (l : List UInt8) (w : World) (a : Act) (W : World) : Prop :=
  a.tmps.size = 22 ∧ a.defers = [] ∧ a.tmps.getD 0 undef = vS l ∧ a.tmps.getD 5 undef = .int .i64 (l.length : Int) ∧
    ∃ j : Nat, a.tmps.getD 6 undef = .int .i64 (j : Int) ∧ j ≤ l.length ∧ (∀ x ∈ l.take j, cap x = true) ∧ W = w
theorem frame22 {a : Act} (h : a.tmps.size = 22) (hd : a.defers = []) : ∃ u : Nat → Value, a = { tmps := #[u 0, u 1, u 2, u 3, u 4, u 5, u 6, u 7, u 8, u 9, u 10, u 11, u 12, u 13, u 14, u 15, u 16, u 17, u 18, u 19, u 20, u 21], defers := [] } ∧ ∀ n, a.tmps.getD n undef = u n := by
  refine ⟨fun n => a.tmps.getD n undef, ?_, fun _ => rfl⟩
  have h1 := arr_lit a.tmps h
  cases a with
  | mk t d =>
    simp only at hd h1
    subst hd
    congr 1
set_option maxRecDepth 100000 in
theorem caps_any (l : List UInt8) (hl : l.length ≤ 4096) (w : World) : Calls Tryz.prog 21 #[vS l] w fun e w' => e = .returned (.bool (caps l)) ∧ w' = w := by
  have hsB := size_B l
  go_enter Tryz.func21, Tryz.ntmps21
  go_wp2_with fail
  refine wp_loop (CpJ l w) (fun a' _ => l.length - (intOf (a'.tmps.getD 6 undef)).toNat) ?_ ?_
  · exact ⟨rfl, rfl, rfl, by show Value.int .i64 ((B l).size : Int) = _; rw [hsB], 0, rfl, Nat.zero_le _, by simp, rfl⟩
  · rintro a' W ⟨hsz, hdf, s0, s5, j, s6, hj, hn, hW⟩
    subst hW
    obtain ⟨u, rfl, hu⟩ := frame22 hsz hdf
    rw [hu] at s0 s5 s6
    simp only [s0, s5, s6]
    clear hsz hdf s0 s5 s6 hu
    have HN := Lib.hid hn
    clear hn
    by_cases hlt : j < l.length
    · have i1 : (j : Int) < (l.length : Int) := by omega
      have hix := ix_str (B l) j (by rw [size_B]; exact hlt)
      rw [L_B] at hix
      have hmem : l.getD j 0 ∈ l := by rw [getD_at hlt]; exact List.getElem_mem hlt
      have HT := Lib.hid (show l.take (j + 1) = l.take j ++ [l.getD j 0] by rw [List.take_succ_eq_append_getElem hlt, getD_at hlt])
      have HNO := Lib.hid (show cap (l.getD j 0) = false → caps l = false by
        intro h
        unfold caps
        rw [Bool.and_eq_false_iff]
        right
        rw [List.all_eq_false]
        exact ⟨_, hmem, by rw [h]; decide⟩)
      have HC := Lib.hid (show cap (l.getD j 0) = (decide (65 ≤ (l.getD j 0).toNat) && decide ((l.getD j 0).toNat ≤ 90)) from rfl)
      clear hmem
      generalize l.getD j 0 = y at *
      by_cases h65 : 65 ≤ y.toNat
      · have i2 : ¬ (y.toNat : Int) < 65 := by omega
        by_cases h90 : y.toNat ≤ 90
        · have i3 : ¬ (90 : Int) < (y.toNat : Int) := by omega
          have HY := Lib.hid (show cap y = true by rw [HC.out, decide_eq_true h65, decide_eq_true h90]; rfl)
          clear h65 h90
          go_wp2_with fail
          go_roundw
          case rel => exact ⟨rfl, rfl, rfl, rfl, j + 1, by go_num, by omega, by
            rw [HT.out]
            intro x hx
            rcases List.mem_append.1 hx with e | e
            · exact HN.out x e
            · rw [List.mem_singleton.1 e]; exact HY.out, rfl⟩
          case measure => simp [intOf]; omega
        · have i3 : (90 : Int) < (y.toNat : Int) := by omega
          have HF := Lib.hid (HNO.out (by rw [HC.out, decide_eq_false h90, Bool.and_false]))
          clear h65 h90
          go_wp2_with fail
          go_ret
          exact ⟨by rw [HF.out]; rfl, by trivial⟩
      · have i2 : (y.toNat : Int) < 65 := by omega
        have HF := Lib.hid (HNO.out (by rw [HC.out, decide_eq_false h65, Bool.false_and]))
        clear h65
        go_wp2_with fail
        go_ret
        exact ⟨by rw [HF.out]; rfl, by trivial⟩
    · have i1 : ¬ (j : Int) < (l.length : Int) := by omega
      have HA := Lib.hid (show caps l = !l.isEmpty by
        have h := HN.out
        rw [List.take_of_length_le (by omega)] at h
        unfold caps
        rw [List.all_eq_true.2 h, Bool.and_true])
      go_wp2_with fail
      go_ret
      exact ⟨by rw [HA.out]; cases l <;> rfl, by trivial⟩
def NmJ (w : World) (a : Act) (W : World) : Prop :=
  a.tmps.size = 14 ∧ a.defers = [] ∧ a.tmps.getD 4 undef = .agg #[vS (nmA 0), vS (nmA 1), vS (nmA 2), vS (nmA 3), vS (nmA 4)] ∧
    ∃ (j : Nat) (v : Value), a.tmps.getD 5 undef = .int .i64 (j : Int) ∧ a.tmps.getD 1 undef = v ∧ j ≤ 5 ∧ W.ownsRow w.heap.size 9 1 v j ((nmL.take j).map vS) ∧ Below w.heap.size w W
theorem frame14 {a : Act} (h : a.tmps.size = 14) (hd : a.defers = []) : ∃ u : Nat → Value, a = { tmps := #[u 0, u 1, u 2, u 3, u 4, u 5, u 6, u 7, u 8, u 9, u 10, u 11, u 12, u 13], defers := [] } ∧ ∀ n, a.tmps.getD n undef = u n := by
  refine ⟨fun n => a.tmps.getD n undef, ?_, fun _ => rfl⟩
  have h1 := arr_lit a.tmps h
  cases a with
  | mk t d =>
    simp only at hd h1
    subst hd
    congr 1
theorem infoS : (Tryz.prog.info? 9).map (fun i => (i.zero, i.size, i.bytes)) = some (some (.string ByteArray.empty), 1, 16) := by kernel_rfl
theorem ixA (j : Nat) (h : j < 5) (W : World) : (Instr.index 49 (.agg #[vS (nmA 0), vS (nmA 1), vS (nmA 2), vS (nmA 3), vS (nmA 4)]) (.int .i64 (j : Int))).run Tryz.prog W = .ok (vS (nmA j)) W := by
  rcases (show j = 0 ∨ j = 1 ∨ j = 2 ∨ j = 3 ∨ j = 4 by omega) with rfl | rfl | rfl | rfl | rfl <;> simp [Instr.index, run_underlying Tryz.underlying49, asIntOf, go_sem]
theorem nm_take {j : Nat} (h : j < 5) : (nmL.take (j + 1)).map vS = (nmL.take j).map vS ++ [vS (nmA j)] := by
  rcases (show j = 0 ∨ j = 1 ∨ j = 2 ∨ j = 3 ∨ j = 4 by omega) with rfl | rfl | rfl | rfl | rfl <;> rfl
def NmP (w : World) (e : Ending) (w' : World) : Prop := ∃ g c, e = .returned (.slice (some ⟨g, 0, none⟩) 5 c) ∧ (∀ j, j < 5 → w'.cell? ⟨g, j, none⟩ = some (vS (nmA j))) ∧ g < w'.heap.size ∧ Below w.heap.size w w'
set_option maxRecDepth 100000 in
theorem names_any (w : World) (hN : Nk w) : Calls Tryz.prog 15 #[] w (NmP w) := by
  have c0 := hN.nm 0 (by omega)
  have c1 := hN.nm 1 (by omega)
  have c2 := hN.nm 2 (by omega)
  have c3 := hN.nm 3 (by omega)
  have c4 := hN.nm 4 (by omega)
  have HIX := Lib.hid (fun j hj W => ixA j hj W)
  go_enter Tryz.func15, Tryz.ntmps15
  go_wp2_with fail
  refine wp_loop (NmJ w) (fun a' _ => 5 - (intOf (a'.tmps.getD 5 undef)).toNat) ?_ ?_
  · exact ⟨rfl, rfl, rfl, 0, _, rfl, rfl, Nat.zero_le _, World.ownsRow_nil _ _ _ _, Below.refl _ _⟩
  · rintro a' W ⟨hsz, hdf, s4, j, v, s5, s1, hj, hown, hb⟩
    obtain ⟨u, rfl, hu⟩ := frame14 hsz hdf
    rw [hu] at s4 s5 s1
    simp only [s4, s5, s1]
    clear hsz hdf s4 s5 s1 hu
    have HO := Lib.hid hown
    have HB := Lib.hid hb
    clear hown hb c0 c1 c2 c3 c4
    by_cases hlt : j < 5
    · have i1 : (j : Int) < 5 := by omega
      have hix := HIX.out j hlt
      have HT := Lib.hid (nm_take hlt)
      have hown1 := HO.out
      have hwq := HB.out.size
      generalize nmA j = y at *
      go_wp2_with (at_builtin; refine wpList_append1 (.tmp 8) (.tmp 10) 46 9 _ 1 16 rfl rfl Tryz.underlying46 infoS rfl (by decide) w.heap.size _ _ _ _ _ _ _ _ hown1 rfl rfl ?cge rfl ?d1e ?d2e ?d3e ?d4e ?cke; case' cke => intro v' w2 hown2 hb2 _)
      case cge => first | rfl | simp
      case d1e => simp [Value.oneCell']
      case d2e => simp only [maxLen]; omega
      case d3e => omega
      case d4e => omega
      go_wp2_with fail
      go_roundw
      case rel => exact ⟨rfl, rfl, rfl, j + 1, v', by go_num, rfl, by omega, by rw [HT.out]; exact hown2, HB.out.trans hb2⟩
      case measure => simp [intOf]; omega
    · obtain rfl : j = 5 := by omega
      have i1 : ¬ ((5 : Nat) : Int) < 5 := by omega
      obtain ⟨g, c, rfl, hg, hc⟩ : ∃ g c, v = .slice (some ⟨g, 0, none⟩) 5 c ∧ g < W.heap.size ∧ ∀ j, j < 5 → W.cell? ⟨g, j, none⟩ = some (vS (nmA j)) := by
        rcases HO.out.2 with ⟨_, h0⟩ | ⟨g, cap, cur, rfl, hgb, hbk, rest⟩
        · cases h0
        · refine ⟨g, cap, rfl, lt_of_blk hbk, fun j hj => ?_⟩
          have := World.ownsRow.cells HO.out (g := g) rfl j (vS (nmA j)) (by rcases (show j = 0 ∨ j = 1 ∨ j = 2 ∨ j = 3 ∨ j = 4 by omega) with rfl | rfl | rfl | rfl | rfl <;> rfl)
          rw [show (⟨g, 0, none⟩ : Addr).add j = ⟨g, j, none⟩ by unfold Addr.add; split <;> simp_all] at this
          exact this
      have HC := Lib.hid hc
      clear hc
      go_wp2_with fail
      go_ret
      exact ⟨g, c, rfl, HC.out, hg, HB.out⟩
theorem text_no {g l : Int} (h : kok g = false ∨ kok l = false) (par b : Int) : textN g l par b = ([], 7) := by
  unfold textN
  rcases h with h | h <;> simp [h]
theorem text_no2 {g l b : Int} (hg : kok g = true) (hl : kok l = true) (h : bok b = false) (par : Int) : textN g l par b = ([], 1) := by
  unfold textN
  simp [hg, hl, h]
theorem text_yes {g l b : Int} (hg : kok g = true) (hl : kok l = true) (h : bok b = true) (par : Int) : textN g l par b = (bodyN g l par b, 0) := by
  unfold textN
  simp [hg, hl, h]
theorem kok_nat {k : Int} (h : kok k = true) : ∃ i : Nat, i < 5 ∧ k = (i : Int) + 1 := by
  rw [kok_iff] at h
  exact ⟨(k - 1).toNat, by omega, by omega⟩
theorem nm_nat (i : Nat) : nm ((i : Int) + 1) = nmA i := by
  unfold nm
  rw [show ((i : Int) + 1 - 1).toNat = i by omega]
  rfl
theorem nm_len {i : Nat} (h : i < 5) : (nmA i).length ≤ 3 := by
  rcases (show i = 0 ∨ i = 1 ∨ i = 2 ∨ i = 3 ∨ i = 4 by omega) with rfl | rfl | rfl | rfl | rfl <;> decide
set_option maxRecDepth 100000 in
set_option maxHeartbeats 4000000 in
theorem ntext_any (g l par b : Int) (hp : -9223372036854775808 ≤ par ∧ par ≤ 9223372036854775807) (w : World) (hN : Nk w) : Calls Tryz.prog 6 #[.agg #[.int .i64 g, .int .i64 l, .int .i64 par, .int .i64 b]] w fun e w' => e = .returned (.tuple #[vS (textN g l par b).1, .int .i64 (textN g l par b).2]) ∧ Below w.heap.size w w' := by
  cases hg : kok g with
  | false =>
    rw [text_no (.inl hg)]
    have hg := Lib.hid (show ∀ W, Calls Tryz.prog 16 #[.int .i64 g] W fun e w' => e = .returned (.bool false) ∧ w' = W from fun W => by have := kind_any g W; rw [hg] at this; exact this)
    go_enter Tryz.func6, Tryz.ntmps6
    go_upto_region 1 with fail
    have hx := blk_new w (.cells #[.int .i64 g, .int .i64 l, .int .i64 par, .int .i64 b] 23)
    have hb := below_new w (.cells #[.int .i64 g, .int .i64 l, .int .i64 par, .int .i64 b] 23)
    generalize w.alloc (.cells #[.int .i64 g, .int .i64 l, .int .i64 par, .int .i64 b] 23) = W1 at *
    have c0 := blk_cell hx 0 (by simp)
    have c1 := blk_cell hx 1 (by simp)
    have c2 := blk_cell hx 2 (by simp)
    have c3 := blk_cell hx 3 (by simp)
    simp at c0 c1 c2 c3
    have HB := Lib.hid hb
    clear hb hx
    go_wp2_with fail
    refine (hg.out _).mono ?_
    rintro e wx ⟨rfl, hwx⟩
    obtain rfl := hwx.symm
    go_wp2_with fail
    go_ret2
    exact ⟨rfl, HB.out⟩
  | true =>
    cases hl : kok l with
    | false =>
      rw [text_no (.inr hl)]
      have hg := Lib.hid (show ∀ W, Calls Tryz.prog 16 #[.int .i64 g] W fun e w' => e = .returned (.bool true) ∧ w' = W from fun W => by have := kind_any g W; rw [hg] at this; exact this)
      have hl := Lib.hid (show ∀ W, Calls Tryz.prog 16 #[.int .i64 l] W fun e w' => e = .returned (.bool false) ∧ w' = W from fun W => by have := kind_any l W; rw [hl] at this; exact this)
      go_enter Tryz.func6, Tryz.ntmps6
      go_upto_region 1 with fail
      have hx := blk_new w (.cells #[.int .i64 g, .int .i64 l, .int .i64 par, .int .i64 b] 23)
      have hb := below_new w (.cells #[.int .i64 g, .int .i64 l, .int .i64 par, .int .i64 b] 23)
      generalize w.alloc (.cells #[.int .i64 g, .int .i64 l, .int .i64 par, .int .i64 b] 23) = W1 at *
      have c0 := blk_cell hx 0 (by simp)
      have c1 := blk_cell hx 1 (by simp)
      have c2 := blk_cell hx 2 (by simp)
      have c3 := blk_cell hx 3 (by simp)
      simp at c0 c1 c2 c3
      have HB := Lib.hid hb
      clear hb hx
      go_wp2_with fail
      refine (hg.out _).mono ?_
      rintro e wx ⟨rfl, hwx⟩
      obtain rfl := hwx.symm
      go_wp2_with fail
      refine (hl.out _).mono ?_
      rintro e wx ⟨rfl, hwx⟩
      obtain rfl := hwx.symm
      go_wp2_with fail
      go_ret2
      exact ⟨rfl, HB.out⟩
    | true =>
      cases hk : bok b with
      | false =>
        rw [text_no2 hg hl hk]
        have HR := Lib.hid (show ∀ W, Calls Tryz.prog 17 #[.int .i64 b] W fun e w' => e = .returned (.bool false) ∧ w' = W from fun W => by have := Bud.right_any b W; rw [bok_eq, hk] at this; exact this)
        have hg := Lib.hid (show ∀ W, Calls Tryz.prog 16 #[.int .i64 g] W fun e w' => e = .returned (.bool true) ∧ w' = W from fun W => by have := kind_any g W; rw [hg] at this; exact this)
        have hl := Lib.hid (show ∀ W, Calls Tryz.prog 16 #[.int .i64 l] W fun e w' => e = .returned (.bool true) ∧ w' = W from fun W => by have := kind_any l W; rw [hl] at this; exact this)
        go_enter Tryz.func6, Tryz.ntmps6
        go_upto_region 1 with fail
        have hx := blk_new w (.cells #[.int .i64 g, .int .i64 l, .int .i64 par, .int .i64 b] 23)
        have hb := below_new w (.cells #[.int .i64 g, .int .i64 l, .int .i64 par, .int .i64 b] 23)
        generalize w.alloc (.cells #[.int .i64 g, .int .i64 l, .int .i64 par, .int .i64 b] 23) = W1 at *
        have c0 := blk_cell hx 0 (by simp)
        have c1 := blk_cell hx 1 (by simp)
        have c2 := blk_cell hx 2 (by simp)
        have c3 := blk_cell hx 3 (by simp)
        simp at c0 c1 c2 c3
        have HB := Lib.hid hb
        clear hb hx
        go_wp2_with fail
        refine (hg.out _).mono ?_
        rintro e wx ⟨rfl, hwx⟩
        obtain rfl := hwx.symm
        go_wp2_with fail
        refine (hl.out _).mono ?_
        rintro e wx ⟨rfl, hwx⟩
        obtain rfl := hwx.symm
        go_wp2_with fail
        refine (HR.out _).mono ?_
        rintro e wx ⟨rfl, hwx⟩
        obtain rfl := hwx.symm
        go_wp2_with fail
        go_ret2
        exact ⟨rfl, HB.out⟩
      | true =>
        rw [text_yes hg hl hk]
        have hb64 : -9223372036854775808 ≤ b ∧ b ≤ 9223372036854775807 := by
          unfold bok at hk
          rw [Bool.and_eq_true, decide_eq_true_iff, decide_eq_true_iff] at hk
          omega
        have HR := Lib.hid (show ∀ W, Calls Tryz.prog 17 #[.int .i64 b] W fun e w' => e = .returned (.bool true) ∧ w' = W from fun W => by have := Bud.right_any b W; rw [bok_eq, hk] at this; exact this)
        obtain ⟨i, hi, rfl⟩ := kok_nat hg
        obtain ⟨j, hj, rfl⟩ := kok_nat hl
        have HE := Lib.hid (show (((((((⟨#[67, 45]⟩ : ByteArray) ++ B (nmA i)) ++ ⟨#[45]⟩) ++ B (nmA j)) ++ ⟨#[47]⟩) ++ B (txt b)) ++ ⟨#[47]⟩) ++ B (txt par) = B (bodyN ((i : Int) + 1) ((j : Int) + 1) par b) by
          show (((((((B [67, 45]) ++ B (nmA i)) ++ B [45]) ++ B (nmA j)) ++ B [47]) ++ B (txt b)) ++ B [47]) ++ B (txt par) = _
          simp only [app_B]
          unfold bodyN headN
          rw [nm_nat, nm_nat]
          simp only [List.append_assoc, List.cons_append, List.nil_append])
        have n1 : (nmA i).length ≤ 3 := nm_len hi
        have n2 : (nmA j).length ≤ 3 := nm_len hj
        have n3 := txt_len hb64
        have n4 := txt_len hp
        have j1 : ¬ 9223372036854775807 < 2 + (nmA i).length := by omega
        have j2 : ¬ 9223372036854775807 < 2 + (nmA i).length + 1 := by omega
        have j3 : ¬ 9223372036854775807 < 2 + (nmA i).length + 1 + (nmA j).length := by omega
        have j4 : ¬ 9223372036854775807 < 2 + (nmA i).length + 1 + (nmA j).length + 1 := by omega
        have j5 : ¬ 9223372036854775807 < 2 + (nmA i).length + 1 + (nmA j).length + 1 + (txt b).length := by omega
        have j6 : ¬ 9223372036854775807 < 2 + (nmA i).length + 1 + (nmA j).length + 1 + (txt b).length + 1 := by omega
        have j7 : ¬ 9223372036854775807 < 2 + (nmA i).length + 1 + (nmA j).length + 1 + (txt b).length + 1 + (txt par).length := by omega
        have HT1 := Lib.hid (fun W => text_any b hb64 W)
        have HT2 := Lib.hid (fun W => text_any par hp W)
        have d0 := hN.nm i hi
        have d1 := hN.nm j hj
        have hsz := hN.sz
        have hg := Lib.hid (show ∀ W, Calls Tryz.prog 16 #[.int .i64 ((i : Int) + 1)] W fun e w' => e = .returned (.bool true) ∧ w' = W from fun W => by have := kind_any ((i : Int) + 1) W; rw [hg] at this; exact this)
        have hl := Lib.hid (show ∀ W, Calls Tryz.prog 16 #[.int .i64 ((j : Int) + 1)] W fun e w' => e = .returned (.bool true) ∧ w' = W from fun W => by have := kind_any ((j : Int) + 1) W; rw [hl] at this; exact this)
        have HN := Lib.hid hN
        have e1 : IntKind.i64.wrap (i : Int) = (i : Int) := IntWalk.i64_in _ (by omega)
        have e2 : IntKind.i64.wrap (j : Int) = (j : Int) := IntWalk.i64_in _ (by omega)
        have i1 : (i : Int) < 5 := by omega
        have i2 : (j : Int) < 5 := by omega
        clear hN hk n1 n2 n3 n4
        generalize nmA i = y1 at *
        generalize nmA j = y2 at *
        generalize txt b = tb at *
        generalize txt par = tp at *
        go_enter Tryz.func6, Tryz.ntmps6
        go_upto_region 1 with fail
        have hx := blk_new w (.cells #[.int .i64 ((i : Int) + 1), .int .i64 ((j : Int) + 1), .int .i64 par, .int .i64 b] 23)
        have hb := below_new w (.cells #[.int .i64 ((i : Int) + 1), .int .i64 ((j : Int) + 1), .int .i64 par, .int .i64 b] 23)
        generalize w.alloc (.cells #[.int .i64 ((i : Int) + 1), .int .i64 ((j : Int) + 1), .int .i64 par, .int .i64 b] 23) = W1 at *
        have c0 := blk_cell hx 0 (by simp)
        have c1 := blk_cell hx 1 (by simp)
        have c2 := blk_cell hx 2 (by simp)
        have c3 := blk_cell hx 3 (by simp)
        simp at c0 c1 c2 c3
        have HB := Lib.hid hb
        have f0 := (hb.cell (p := ⟨0, i, none⟩) (by show 0 < _; omega)).trans d0
        have f1 := (hb.cell (p := ⟨0, j, none⟩) (by show 0 < _; omega)).trans d1
        clear hb hx d0 d1
        go_wp2_with fail
        refine (hg.out _).mono ?_
        rintro e wx ⟨rfl, hwx⟩
        obtain rfl := hwx.symm
        go_wp2_with fail
        refine (hl.out _).mono ?_
        rintro e wx ⟨rfl, hwx⟩
        obtain rfl := hwx.symm
        go_wp2_with fail
        refine (HR.out _).mono ?_
        rintro e wx ⟨rfl, hwx⟩
        obtain rfl := hwx.symm
        go_upto_region 5 with fail
        have k0 := cell_regrown c0
        have k1 := cell_regrown c1
        have k2 := cell_regrown c2
        have k3 := cell_regrown c3
        have k4 := cell_regrown f0
        have k5 := cell_regrown f1
        have CB := Lib.hid (fun d os => Calls.regrown_of (HT1.out (grow (redrawn W1 d) os)))
        have CP := Lib.hid (fun d os => Calls.regrown_of (HT2.out (grow (redrawn W1 d) os)))
        clear c0 c1 c2 c3 f0 f1
        refine wp_region_quiet_below (by kernel_rfl) (by kernel_rfl) ?_
        repeat (any_goals (first | go_big_quiet_step ((go_at_call 18; first | with_reducible exact CB.out _ _ | with_reducible exact CP.out _ _)) | quiet_step ((go_at_call 18; first | with_reducible exact CB.out _ _ | with_reducible exact CP.out _ _))))
        refine wpQuiet_nil ?_
        intro _ hw'
        obtain ⟨⟨dq, osq⟩, hw''⟩ := hw'
        subst hw''
        go_wp2_with fail
        go_ret2
        exact ⟨by show _ = Ending.returned (.tuple #[.string _, _]); rw [← HE.out]; rfl, HB.out.trans ((below_regrown W1 dq osq).mono HB.out.size)⟩
end Go.Proofs.YtfnmggmgdmokcaaGreatDoor.Na

