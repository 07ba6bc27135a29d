/- Merged texts: De3, De4, NaP, Make, Same, TpO, TpP. -/
import Derived.Test.YtfnmggmgdmokcaaGreatDoorNb3
import Derived.Laws.MakeOwn
set_option linter.unusedVariables false
/- Walks of numbers' texts: digits, next, Take, Parse of the program. -/
namespace Go.Proofs.YtfnmggmgdmokcaaGreatDoor.De
open Go.RowKit Go.Proofs.YtfnmggmgdmokcaaGreatDoor.Li

theorem ix_two (l : List UInt8) (i j : Nat) (h : i + j < l.length) (W : World) : (Instr.index 9 (vS l) (.int .i64 ((i : Int) + (j : Int)))).run Tryz.prog W = .ok (.int .u8 ((l.getD (i + j) 0).toNat : Int)) W := by
  have := ix_str (B l) (i + j) (by rw [size_B]; exact h) W
  rw [Int.natCast_add] at this
  exact this
theorem tw_cons_yes {l : List UInt8} {i : Nat} (h : i < l.length) (hd : isD (l.getD i 0) = true) : ((l.drop i).takeWhile isD).length = 1 + ((l.drop (i + 1)).takeWhile isD).length := by
  rw [drop_cons _ _ h, List.takeWhile_cons_of_pos hd, List.length_cons]; omega
theorem tw_cons_no {l : List UInt8} {i : Nat} (h : i < l.length) (hd : isD (l.getD i 0) = false) : ((l.drop i).takeWhile isD).length = 0 := by
  rw [drop_cons _ _ h, List.takeWhile_cons_of_neg (by rw [hd]; simp)]; rfl
theorem notD {c : UInt8} (h : ¬ (48 ≤ c.toNat ∧ c.toNat ≤ 57)) : isD c = false := by
  cases hq : isD c with
  | false => rfl
  | true => exact absurd ((isD_iff c).1 hq) h
set_option maxRecDepth 100000 in
set_option maxHeartbeats 1000000 in
theorem digits_any (l : List UInt8) (i : Nat) (hi : i ≤ l.length) (hl : l.length ≤ 4096) (w : World) : Calls Tryz.prog 44 #[vS l, .int .i64 (i : Int)] w fun e w' => e = .returned (.int .i64 (((l.drop i).takeWhile isD).length : Int)) ∧ w' = w := by
  have hsB := size_B l
  go_enter Tryz.func44, Tryz.ntmps44
  go_wp2_with fail
  go_loopw [5] (fun n wr => ∃ j : Nat, i + j ≤ l.length ∧ n = .int .i64 (j : Int) ∧ ((l.drop i).takeWhile isD).length = j + ((l.drop (i + j)).takeWhile isD).length ∧ wr = w) (fun n _ => l.length - (intOf n).toNat)
  case atStart => exact ⟨0, by omega, rfl, by simp, rfl⟩
  case round =>
    obtain ⟨j, hj, rfl, hn, hwr⟩ := hrel
    subst hwr
    have HN := Lib.hid hn
    clear hn
    by_cases hlt : i + j < l.length
    · have hix := ix_two l i j hlt
      have i1 : (i : Int) + (j : Int) < (l.length : Int) := by omega
      have hyes := Lib.hid (fun h => tw_cons_yes hlt h)
      have hno := Lib.hid (fun h => tw_cons_no hlt h)
      have hiff := Lib.hid (isD_iff (l.getD (i + j) 0))
      generalize l.getD (i + j) 0 = c at *
      by_cases h48 : 48 ≤ c.toNat
      · have i2 : (48 : Int) ≤ (c.toNat : Int) := by omega
        by_cases h57 : c.toNat ≤ 57
        · have i3 : (c.toNat : Int) ≤ 57 := by omega
          have HS := Lib.hid (show ((l.drop i).takeWhile isD).length = (j + 1) + ((l.drop (i + (j + 1))).takeWhile isD).length by rw [HN.out, hyes.out (hiff.out.2 ⟨h48, h57⟩)]; simp only [Nat.add_assoc])
          clear hyes hno hiff
          go_wp2_with fail
          go_roundw
          case rel => exact ⟨j + 1, by omega, by go_num, HS.out, by trivial⟩
          case measure => simp [intOf]; omega
        · have i3 : ¬ (c.toNat : Int) ≤ 57 := by omega
          have HS := Lib.hid (show ((l.drop i).takeWhile isD).length = j by rw [HN.out, hno.out (notD (fun hq => h57 hq.2)), Nat.add_zero])
          clear hyes hno hiff
          go_wp2_with fail
          go_ret
          exact ⟨by rw [HS.out]; rfl, by trivial⟩
      · have i2 : ¬ (48 : Int) ≤ (c.toNat : Int) := by omega
        have HS := Lib.hid (show ((l.drop i).takeWhile isD).length = j by rw [HN.out, hno.out (notD (fun hq => h48 hq.1)), Nat.add_zero])
        clear hyes hno hiff
        go_wp2_with fail
        go_ret
        exact ⟨by rw [HS.out]; rfl, by trivial⟩
    · have i1 : ¬ (i : Int) + (j : Int) < (l.length : Int) := by omega
      have HS := Lib.hid (show ((l.drop i).takeWhile isD).length = j by rw [HN.out, List.drop_eq_nil_of_le (by omega)]; rfl)
      go_wp2_with fail
      go_ret
      exact ⟨by rw [HS.out]; rfl, by trivial⟩
theorem next_neg (v d : Nat) (hv : v ≤ 9223372036854775808) (hd : d < 10) (w : World) : Calls Tryz.prog 45 #[.int .i64 (-(v : Int)), .int .i64 (d : Int), .bool true] w fun e w' =>
    e = .returned (.tuple (if 10 * v + d ≤ 9223372036854775808 then #[.int .i64 (-((10 * v + d : Nat) : Int)), .bool true] else #[.int .i64 (-(v : Int)), .bool false])) ∧ w' = w := by
  have ht : (-9223372036854775808 + (d : Int)).tdiv 10 = -(((9223372036854775808 - d) / 10 : Nat) : Int) := by
    have : (-9223372036854775808 + (d : Int)) = -((9223372036854775808 - d : Nat) : Int) := by omega
    rw [this, Int.neg_tdiv]
    simp [Int.ofNat_tdiv]
  have hw := IntWalk.i64_in (-(((9223372036854775808 - d) / 10 : Nat) : Int)) (by omega)
  have i0 : (d : Int) < 10 := by omega
  have i1 : (0 : Int) ≤ (d : Int) := by omega
  have i2 : (v : Int) ≤ 9223372036854775808 := by omega
  by_cases h : 10 * v + d ≤ 9223372036854775808
  · rw [if_pos h]
    have q : ¬ -(v : Int) < -(((9223372036854775808 - d) / 10 : Nat) : Int) := by omega
    have HE := Lib.hid (show -(v : Int) * 10 - (d : Int) = -(10 * (v : Int) + (d : Int)) by omega)
    have i3 : -9223372036854775808 ≤ -(v : Int) * 10 := by omega
    have i4 : -9223372036854775808 ≤ -(v : Int) * 10 - (d : Int) := by omega
    generalize (((9223372036854775808 - d) / 10 : Nat) : Int) = z at *
    clear h
    go_enter Tryz.func45, Tryz.ntmps45
    go_wp2_with fail
    go_ret2
    exact ⟨by rw [← HE.out]; rfl, rfl⟩
  · rw [if_neg h]
    have q : -(v : Int) < -(((9223372036854775808 - d) / 10 : Nat) : Int) := by omega
    generalize (((9223372036854775808 - d) / 10 : Nat) : Int) = z at *
    clear h
    go_enter Tryz.func45, Tryz.ntmps45
    go_wp2_with fail
    go_ret2
    exact ⟨rfl, rfl⟩
theorem next_pos (v d : Nat) (hv : v ≤ 9223372036854775807) (hd : d < 10) (w : World) : Calls Tryz.prog 45 #[.int .i64 (v : Int), .int .i64 (d : Int), .bool false] w fun e w' =>
    e = .returned (.tuple (if 10 * v + d ≤ 9223372036854775807 then #[.int .i64 ((10 * v + d : Nat) : Int), .bool true] else #[.int .i64 (v : Int), .bool false])) ∧ w' = w := by
  have ht : (9223372036854775807 - (d : Int)).tdiv 10 = (((9223372036854775807 - d) / 10 : Nat) : Int) := by
    have : (9223372036854775807 - (d : Int)) = ((9223372036854775807 - d : Nat) : Int) := by omega
    rw [this]
    simp [Int.ofNat_tdiv]
  have ht2 : (9223372036854775807 - (d : Int)) / 10 = (((9223372036854775807 - d) / 10 : Nat) : Int) := by omega
  have hw := IntWalk.i64_in ((((9223372036854775807 - d) / 10 : Nat) : Int)) (by omega)
  have i0 : (d : Int) < 10 := by omega
  have i1 : (0 : Int) ≤ (d : Int) := by omega
  have i2 : (v : Int) ≤ 9223372036854775807 := by omega
  have i5 : (0 : Int) ≤ (v : Int) := by omega
  by_cases h : 10 * v + d ≤ 9223372036854775807
  · rw [if_pos h]
    have q : ¬ (((9223372036854775807 - d) / 10 : Nat) : Int) < (v : Int) := by omega
    have HE := Lib.hid (show (v : Int) * 10 + (d : Int) = 10 * (v : Int) + (d : Int) by omega)
    have i3 : (v : Int) * 10 ≤ 9223372036854775807 := by omega
    have i4 : (v : Int) * 10 + (d : Int) ≤ 9223372036854775807 := by omega
    generalize (((9223372036854775807 - d) / 10 : Nat) : Int) = z at *
    clear h
    go_enter Tryz.func45, Tryz.ntmps45
    go_wp2_with fail
    go_ret2
    exact ⟨by rw [← HE.out]; rfl, rfl⟩
  · rw [if_neg h]
    have q : (((9223372036854775807 - d) / 10 : Nat) : Int) < (v : Int) := by omega
    generalize (((9223372036854775807 - d) / 10 : Nat) : Int) = z at *
    clear h
    go_enter Tryz.func45, Tryz.ntmps45
    go_wp2_with fail
    go_ret2
    exact ⟨rfl, rfl⟩

theorem prefix45 (l : List UInt8) : Lib.hasPrefix l [45] = decide (l.head? = some 45) := by
  unfold Lib.hasPrefix
  cases l with
  | nil => rfl
  | cons c t =>
    by_cases h : c = 45
    · subst h; simp [List.isPrefixOf]
    · have h' : ¬ (45 : UInt8) = c := fun e => h e.symm
      simp [List.isPrefixOf, h, h']
theorem prefix_any (l : List UInt8) (w : World) : Calls Tryz.prog 43 #[vS l, .string ⟨#[45]⟩] w fun e w' => e = .returned (.bool (decide (l.head? = some 45))) ∧ w' = w := by
  have := Tryz.strings_HasPrefix (B l) ⟨#[45]⟩ w
  rw [show Lib.hasPrefix (B l).data.toList (⟨#[45]⟩ : ByteArray).data.toList = decide (l.head? = some 45) from prefix45 l] at this
  exact this
theorem val_succ {l : List UInt8} {k : Nat} (h : k < l.length) : val (l.take (k + 1)) = 10 * val (l.take k) + dv (l.getD k 0) := by
  rw [List.take_succ_eq_append_getElem h, val_snoc, getD_at h]
theorem isD_tw {l : List UInt8} {k : Nat} (h : k < (l.takeWhile isD).length) : k < l.length ∧ isD (l.getD k 0) = true := by
  have hl := len_split isD l
  have hk : k < l.length := by omega
  refine ⟨hk, ?_⟩
  rw [getD_at hk]
  exact all_take isD l (k + 1) h l[k] (by rw [List.take_succ_eq_append_getElem hk]; exact List.mem_append_right _ (List.mem_singleton.2 rfl))
set_option maxRecDepth 100000 in
set_option maxHeartbeats 2000000 in
theorem take_pos_any (l : List UInt8) (hl : l.length ≤ 4096) (h45 : l.head? ≠ some 45) (w : World) : Calls Tryz.prog 31 #[vS l] w fun e w' => e = .returned (.tuple #[.int .i64 (take l).1, .int .i64 ((take l).2 : Int)]) ∧ w' = w := by
  have hsB := size_B l
  have HP := Lib.hid (show Calls Tryz.prog 43 #[vS l, .string ⟨#[45]⟩] w fun e w' => e = .returned (.bool false) ∧ w' = w by
    have := prefix_any l w
    rw [decide_eq_false h45] at this
    exact this)
  have HD := Lib.hid (show Calls Tryz.prog 44 #[vS l, .int .i64 0] w fun e w' => e = .returned (.int .i64 ((l.takeWhile isD).length : Int)) ∧ w' = w from digits_any l 0 (Nat.zero_le _) hl w)
  obtain ⟨T1, T2, T3⟩ := take_pos h45
  have hml := len_split isD l
  obtain ⟨m, hm⟩ : ∃ m, (l.takeWhile isD).length = m := ⟨_, rfl⟩
  by_cases h0 : m = 0
  · rw [T1 (by omega)]
    rw [hm, h0] at HD
    clear T1 T2 T3 hm hml h45
    go_enter Tryz.func31, Tryz.ntmps31
    go_wp2_with fail
    refine (HP.out).mono ?_
    rintro e wx ⟨rfl, hwx⟩
    obtain rfl := hwx.symm
    go_wp2_with fail
    refine (HD.out).mono ?_
    rintro e wx ⟨rfl, hwx⟩
    obtain rfl := hwx.symm
    go_wp2_with fail
    go_ret2
    exact ⟨rfl, rfl⟩
  · obtain ⟨hk0, hd0⟩ := isD_tw (l := l) (k := 0) (by omega)
    have hix0 : ∀ W, (Instr.index 9 (vS l) (.int .i64 0)).run Tryz.prog W = .ok (.int .u8 ((l.getD 0 0).toNat : Int)) W := fun W => ix_str (B l) 0 (by rw [hsB]; exact hk0) W
    have hh0 : l.head? = some (l.getD 0 0) := by cases l with
      | nil => simp at hk0
      | cons c t => rfl
    rw [isD_iff] at hd0
    have hm0 : ((m : Int) == 0) = false := nbeq_no h0
    by_cases h48 : l.getD 0 0 = 48
    · rw [T2 (by omega) (by rw [hh0, h48])]
      rw [h48] at hix0
      rw [hm] at HD
      clear T1 T2 T3 hm hml h45 hh0 hd0 h48
      go_enter Tryz.func31, Tryz.ntmps31
      go_wp2_with fail
      refine (HP.out).mono ?_
      rintro e wx ⟨rfl, hwx⟩
      obtain rfl := hwx.symm
      go_wp2_with fail
      refine (HD.out).mono ?_
      rintro e wx ⟨rfl, hwx⟩
      obtain rfl := hwx.symm
      go_wp2_with fail
      go_ret2
      exact ⟨rfl, rfl⟩
    · have T3' := Lib.hid (fun i h1 h2 h3 => T3 i h1 h2 (by rw [hh0]; exact fun e => h48 (Option.some.inj e)) h3)
      have hne : (((l.getD 0 0).toNat : Int) == 48) = false := ibeq_no (fun e => h48 (UInt8.toNat_inj.1 (by have : (48 : UInt8).toNat = 48 := rfl; omega)))
      rw [hm] at HD
      have HM := Lib.hid hm
      clear T1 T2 T3 hm hh0 hd0 h48 h45
      generalize (l.getD 0 0).toNat = c0 at *
      go_enter Tryz.func31, Tryz.ntmps31
      go_wp2_with fail
      refine (HP.out).mono ?_
      rintro e wx ⟨rfl, hwx⟩
      obtain rfl := hwx.symm
      go_wp2_with fail
      refine (HD.out).mono ?_
      rintro e wx ⟨rfl, hwx⟩
      obtain rfl := hwx.symm
      go_wp2_with fail
      clear hix0 hne
      go_loopw [7, 34] (fun n kk wr => ∃ k : Nat, k ≤ m ∧ kk = .int .i64 (k : Int) ∧ n = .int .i64 (val (l.take k) : Int) ∧ val (l.take k) ≤ 9223372036854775807 ∧ wr = w) (fun _ kk _ => m - (intOf kk).toNat)
      case atStart => exact ⟨0, Nat.zero_le _, rfl, by simp [val_nil], by simp [val_nil], rfl⟩
      case round =>
        obtain ⟨k, hk, rfl, rfl, hv, hwr⟩ := hrel
        subst hwr
        by_cases hlt : k < m
        · obtain ⟨hk1, hdk⟩ := isD_tw (l := l) (k := k) (by have := HM.out; omega)
          have HV := Lib.hid (val_succ hk1)
          have hix : ∀ W, (Instr.index 9 (vS l) (.int .i64 (k : Int))).run Tryz.prog W = .ok (.int .u8 (48 + (dv (l.getD k 0) : Int))) W := fun W => by
            have := ix_str (B l) k (by rw [hsB]; exact hk1) W
            rw [L_B, show ((l.getD k 0).toNat : Int) = 48 + (dv (l.getD k 0) : Int) by rw [isD_iff] at hdk; unfold dv; omega] at this
            exact this
          have hd9 := dv_lt hdk
          have HN := Lib.hid (next_pos (val (l.take k)) (dv (l.getD k 0)) hv hd9)
          have i1 : (k : Int) < (m : Int) := by omega
          have i2 : ((dv (l.getD k 0) : Nat) : Int) ≤ 9 := by omega
          have HVK := Lib.hid (show k = 0 → val (l.take k) = 0 by rintro rfl; simp [val_nil])
          have HE := Lib.hid (fun h1 h2 => T3'.out k h1 (by rw [HM.out]; omega) hv (.inr h2))
          rw [HV.out] at HE
          generalize dv (l.getD k 0) = d at *
          generalize val (l.take k) = v at *
          have e48 : (48 : Int) + (d : Int) - 48 = (d : Int) := by omega
          by_cases hfit : 10 * v + d ≤ 9223372036854775807
          · have HN : Hid (∀ W, Calls Tryz.prog 45 #[.int .i64 (v : Int), .int .i64 (d : Int), .bool false] W fun e w' => e = .returned (.tuple #[.int .i64 ((10 * v + d : Nat) : Int), .bool true]) ∧ w' = W) := Lib.hid (fun W => by have := HN.out W; rw [if_pos hfit] at this; exact this)
            clear HE
            go_wp2_with fail
            refine (HN.out _).mono ?_
            rintro e wx ⟨rfl, hwx⟩
            obtain rfl := hwx.symm
            go_wp2_with fail
            go_roundw
            case rel => exact ⟨k + 1, by omega, by go_num, by rw [HV.out]; simp, by rw [HV.out]; exact hfit, by trivial⟩
            case measure => simp [intOf]; omega
          · have HN : Hid (∀ W, Calls Tryz.prog 45 #[.int .i64 (v : Int), .int .i64 (d : Int), .bool false] W fun e w' => e = .returned (.tuple #[.int .i64 (v : Int), .bool false]) ∧ w' = W) := Lib.hid (fun W => by have := HN.out W; rw [if_neg hfit] at this; exact this)
            have hk0' : 1 ≤ k := by
              by_cases h : k = 0
              · have := HVK.out h; omega
              · omega
            have HE := Lib.hid (HE.out hk0' (by omega))
            go_wp2_with fail
            refine (HN.out _).mono ?_
            rintro e wx ⟨rfl, hwx⟩
            obtain rfl := hwx.symm
            go_wp2_with fail
            go_ret2
            exact ⟨by rw [HE.out]; rfl, by trivial⟩
        · obtain rfl : k = m := by omega
          have HE := Lib.hid (T3'.out k (by omega) (by rw [HM.out]; omega) hv (.inl HM.out.symm))
          generalize val (l.take k) = v at *
          have i3 : (k : Int) ≤ 4096 := by have := HM.out; omega
          go_wp2_with fail
          go_ret2
          exact ⟨by rw [HE.out]; rfl, by trivial⟩
set_option maxRecDepth 100000 in
set_option maxHeartbeats 2000000 in
theorem take_neg_any (l : List UInt8) (hl : l.length + 1 ≤ 4096) (w : World) : Calls Tryz.prog 31 #[vS (45 :: l)] w fun e w' => e = .returned (.tuple #[.int .i64 (take (45 :: l)).1, .int .i64 ((take (45 :: l)).2 : Int)]) ∧ w' = w := by
  have hsB := size_B (45 :: l)
  rw [List.length_cons] at hsB
  have HP := Lib.hid (show Calls Tryz.prog 43 #[vS (45 :: l), .string ⟨#[45]⟩] w fun e w' => e = .returned (.bool true) ∧ w' = w from prefix_any (45 :: l) w)
  have HD := Lib.hid (show Calls Tryz.prog 44 #[vS (45 :: l), .int .i64 1] w fun e w' => e = .returned (.int .i64 ((l.takeWhile isD).length : Int)) ∧ w' = w from digits_any (45 :: l) 1 (by simp) (by simpa using hl) w)
  obtain ⟨T1, T2, T3⟩ := take_neg l
  have hml := len_split isD l
  obtain ⟨m, hm⟩ : ∃ m, (l.takeWhile isD).length = m := ⟨_, rfl⟩
  by_cases h0 : m = 0
  · rw [T1 (by omega)]
    rw [hm, h0] at HD
    clear T1 T2 T3 hm hml
    go_enter Tryz.func31, Tryz.ntmps31
    go_wp2_with fail
    refine (HP.out).mono ?_
    rintro e wx ⟨rfl, hwx⟩
    obtain rfl := hwx.symm
    go_wp2_with fail
    refine (HD.out).mono ?_
    rintro e wx ⟨rfl, hwx⟩
    obtain rfl := hwx.symm
    go_wp2_with fail
    go_ret2
    exact ⟨rfl, rfl⟩
  · obtain ⟨hk0, hd0⟩ := isD_tw (l := l) (k := 0) (by omega)
    have hix0 : ∀ W, (Instr.index 9 (vS (45 :: l)) (.int .i64 1)).run Tryz.prog W = .ok (.int .u8 ((l.getD 0 0).toNat : Int)) W := fun W => ix_str (B (45 :: l)) 1 (by rw [hsB]; omega) W
    have hh0 : l.head? = some (l.getD 0 0) := by cases l with
      | nil => simp at hk0
      | cons c t => rfl
    rw [isD_iff] at hd0
    have hm0 : ((m : Int) == 0) = false := nbeq_no h0
    by_cases h48 : l.getD 0 0 = 48
    · rw [T2 (by rw [hh0, h48])]
      rw [h48] at hix0
      rw [hm] at HD
      clear T1 T2 T3 hm hml hh0 hd0 h48
      go_enter Tryz.func31, Tryz.ntmps31
      go_wp2_with fail
      refine (HP.out).mono ?_
      rintro e wx ⟨rfl, hwx⟩
      obtain rfl := hwx.symm
      go_wp2_with fail
      refine (HD.out).mono ?_
      rintro e wx ⟨rfl, hwx⟩
      obtain rfl := hwx.symm
      go_wp2_with fail
      go_ret2
      exact ⟨rfl, rfl⟩
    · have T3' := Lib.hid (fun i h1 h2 h3 => T3 i h1 h2 (by rw [hh0]; exact fun e => h48 (Option.some.inj e)) h3)
      have hne : (((l.getD 0 0).toNat : Int) == 48) = false := ibeq_no (fun e => h48 (UInt8.toNat_inj.1 (by have : (48 : UInt8).toNat = 48 := rfl; omega)))
      rw [hm] at HD
      have HM := Lib.hid hm
      clear T1 T2 T3 hm hh0 hd0 h48
      generalize (l.getD 0 0).toNat = c0 at *
      go_enter Tryz.func31, Tryz.ntmps31
      go_wp2_with fail
      refine (HP.out).mono ?_
      rintro e wx ⟨rfl, hwx⟩
      obtain rfl := hwx.symm
      go_wp2_with fail
      refine (HD.out).mono ?_
      rintro e wx ⟨rfl, hwx⟩
      obtain rfl := hwx.symm
      go_wp2_with fail
      clear hix0 hne
      go_loopw [7, 34] (fun n kk wr => ∃ k : Nat, k ≤ m ∧ kk = .int .i64 (k : Int) ∧ n = .int .i64 (-(val (l.take k) : Int)) ∧ val (l.take k) ≤ 9223372036854775808 ∧ wr = w) (fun _ kk _ => m - (intOf kk).toNat)
      case atStart => exact ⟨0, Nat.zero_le _, rfl, by simp [val_nil], by simp [val_nil], rfl⟩
      case round =>
        obtain ⟨k, hk, rfl, rfl, hv, hwr⟩ := hrel
        subst hwr
        by_cases hlt : k < m
        · obtain ⟨hk1, hdk⟩ := isD_tw (l := l) (k := k) (by have := HM.out; omega)
          have HV := Lib.hid (val_succ hk1)
          have hix : ∀ W, (Instr.index 9 (vS (45 :: l)) (.int .i64 (1 + (k : Int)))).run Tryz.prog W = .ok (.int .u8 (48 + (dv (l.getD k 0) : Int))) W := fun W => by
            have := ix_two (45 :: l) 1 k (by rw [List.length_cons]; omega) W
            rw [show (45 :: l).getD (1 + k) 0 = l.getD k 0 by rw [Nat.add_comm]; rfl, show ((l.getD k 0).toNat : Int) = 48 + (dv (l.getD k 0) : Int) by rw [isD_iff] at hdk; unfold dv; omega] at this
            exact this
          have hd9 := dv_lt hdk
          have HN := Lib.hid (next_neg (val (l.take k)) (dv (l.getD k 0)) hv hd9)
          have i1 : (k : Int) < (m : Int) := by omega
          have i2 : ((dv (l.getD k 0) : Nat) : Int) ≤ 9 := by omega
          have HVK := Lib.hid (show k = 0 → val (l.take k) = 0 by rintro rfl; simp [val_nil])
          have HE := Lib.hid (fun h1 h2 => T3'.out k h1 (by rw [HM.out]; omega) hv (.inr h2))
          rw [HV.out] at HE
          generalize dv (l.getD k 0) = d at *
          generalize val (l.take k) = v at *
          have e48 : (48 : Int) + (d : Int) - 48 = (d : Int) := by omega
          by_cases hfit : 10 * v + d ≤ 9223372036854775808
          · have HN : Hid (∀ W, Calls Tryz.prog 45 #[.int .i64 (-(v : Int)), .int .i64 (d : Int), .bool true] W fun e w' => e = .returned (.tuple #[.int .i64 (-((10 * v + d : Nat) : Int)), .bool true]) ∧ w' = W) := Lib.hid (fun W => by have := HN.out W; rw [if_pos hfit] at this; exact this)
            clear HE
            go_wp2_with fail
            refine (HN.out _).mono ?_
            rintro e wx ⟨rfl, hwx⟩
            obtain rfl := hwx.symm
            go_wp2_with fail
            go_roundw
            case rel => exact ⟨k + 1, by omega, by go_num, by rw [HV.out]; simp, by rw [HV.out]; exact hfit, by trivial⟩
            case measure => simp [intOf]; omega
          · have HN : Hid (∀ W, Calls Tryz.prog 45 #[.int .i64 (-(v : Int)), .int .i64 (d : Int), .bool true] W fun e w' => e = .returned (.tuple #[.int .i64 (-(v : Int)), .bool false]) ∧ w' = W) := Lib.hid (fun W => by have := HN.out W; rw [if_neg hfit] at this; exact this)
            have hk0' : 1 ≤ k := by
              by_cases h : k = 0
              · have := HVK.out h; omega
              · omega
            have HE := Lib.hid (HE.out hk0' (by omega))
            go_wp2_with fail
            refine (HN.out _).mono ?_
            rintro e wx ⟨rfl, hwx⟩
            obtain rfl := hwx.symm
            go_wp2_with fail
            go_ret2
            exact ⟨by rw [HE.out]; show _ = Ending.returned (.tuple #[.int .i64 (-(v : Int)), .int .i64 ((k + 1 : Nat) : Int)]); rw [Int.natCast_add, Int.add_comm]; rfl, by trivial⟩
        · obtain rfl : k = m := by omega
          have HE := Lib.hid (T3'.out k (by omega) (by rw [HM.out]; omega) hv (.inl HM.out.symm))
          generalize val (l.take k) = v at *
          have i3 : (k : Int) ≤ 4096 := by have := HM.out; omega
          go_wp2_with fail
          go_ret2
          exact ⟨by rw [HE.out]; show _ = Ending.returned (.tuple #[.int .i64 (-(v : Int)), .int .i64 ((k + 1 : Nat) : Int)]); rw [Int.natCast_add, Int.add_comm]; rfl, by trivial⟩
end Go.Proofs.YtfnmggmgdmokcaaGreatDoor.De

/- Walks of numbers' texts: Parse of the program and of the reference, Take of the reference. -/
namespace Go.Proofs.YtfnmggmgdmokcaaGreatDoor.De
open Go.RowKit Go.Proofs.YtfnmggmgdmokcaaGreatDoor.Li

theorem take_any (l : List UInt8) (hl : l.length ≤ 4096) (w : World) : Calls Tryz.prog 31 #[vS l] w fun e w' => e = .returned (.tuple #[.int .i64 (take l).1, .int .i64 ((take l).2 : Int)]) ∧ w' = w := by
  by_cases h : l.head? = some 45
  · cases l with
    | nil => cases h
    | cons c t =>
      have : c = 45 := by simpa using h
      subst this
      exact take_neg_any t (by simpa using hl) w
  · exact take_pos_any l hl h w
def pr (s : List UInt8) : Int × Int := match prs s with
  | some n => (n, 0)
  | none => (0, 2)
theorem tk_le (s : List UInt8) : ∀ k, (tk s k).2 ≤ k
  | 0 => Nat.le_refl _
  | k + 1 => by
    unfold tk
    split
    · exact Nat.le_refl _
    · exact Nat.le_trans (tk_le s k) (Nat.le_succ k)
set_option maxHeartbeats 1000000 in
theorem parse_any (l : List UInt8) (hl : l.length ≤ 4096) (w : World) : Calls Tryz.prog 20 #[vS l] w fun e w' => e = .returned (.tuple #[.int .i64 (pr l).1, .int .i64 (pr l).2]) ∧ w' = w := by
  have HT := Lib.hid (take_any l hl w)
  have hpt := prs_take (s := l)
  unfold pr
  have hle := tk_le l (min l.length 20)
  change (take l).2 ≤ _ at hle
  generalize take l = p at *
  obtain ⟨n, k⟩ := p
  simp only at hpt hle HT
  by_cases h0 : k = 0
  · rw [hpt, if_neg (by omega)]
    subst h0
    go_enter Tryz.func20, Tryz.ntmps20
    go_wp2_with fail
    refine (HT.out).mono ?_
    rintro e wx ⟨rfl, hwx⟩
    obtain rfl := hwx.symm
    go_wp2_with fail
    go_ret2
    exact ⟨rfl, rfl⟩
  · have hk0 : ((k : Int) == 0) = false := ibeq_no (by omega)
    by_cases h1 : k = l.length
    · rw [hpt, if_pos ⟨h0, h1⟩]
      have q := nbne_no h1
      have q2 := nbeq h1
      clear hpt hle h0 h1
      go_enter Tryz.func20, Tryz.ntmps20
      go_wp2_with fail
      refine (HT.out).mono ?_
      rintro e wx ⟨rfl, hwx⟩
      obtain rfl := hwx.symm
      go_wp2_with fail
      go_ret2
      exact ⟨rfl, rfl⟩
    · rw [hpt, if_neg (fun h => h1 h.2)]
      have q := nbne h1
      have q2 := nbeq_no h1
      clear hpt hle h0
      go_enter Tryz.func20, Tryz.ntmps20
      go_wp2_with fail
      refine (HT.out).mono ?_
      rintro e wx ⟨rfl, hwx⟩
      obtain rfl := hwx.symm
      go_wp2_with fail
      go_ret2
      exact ⟨rfl, rfl⟩
/-! the reference's Parse -/
theorem pr_ok (l : List UInt8) : (∃ m, prs l = some m ∧ pr l = (m, 0)) ∨ (prs l = none ∧ pr l = (0, 2)) := by
  unfold pr
  cases prs l with
  | none => exact .inr ⟨rfl, rfl⟩
  | some m => exact .inl ⟨m, rfl, rfl⟩
end Go.Proofs.YtfnmggmgdmokcaaGreatDoor.De

/- Names of cohort locks, as lists of bytes: the plain law. -/
namespace Go.Proofs.YtfnmggmgdmokcaaGreatDoor.Na
open Go.Proofs.YtfnmggmgdmokcaaGreatDoor.Li Go.Proofs.YtfnmggmgdmokcaaGreatDoor.De

def nmL : List (List UInt8) := [[66, 79], [84, 75, 84], [80, 84, 76], [77, 67, 83], [67, 76, 72]]
def nm (k : Int) : List UInt8 := nmL.getD (k - 1).toNat []
def kok (k : Int) : Bool := decide (1 ≤ k) && decide (k ≤ 5)
def bok (b : Int) : Bool := decide (0 ≤ b) && decide (b ≤ 1000)
theorem kok_iff {k : Int} : kok k = true ↔ k = 1 ∨ k = 2 ∨ k = 3 ∨ k = 4 ∨ k = 5 := by
  unfold kok
  rw [Bool.and_eq_true, decide_eq_true_iff, decide_eq_true_iff]
  omega
def headN (g l : Int) : List UInt8 := 67 :: 45 :: (nm g ++ 45 :: nm l)
def bodyN (g l par b : Int) : List UInt8 := headN g l ++ 47 :: (txt b ++ 47 :: txt par)
def textN (g l par b : Int) : List UInt8 × Int := if kok g && kok l then (if bok b then (bodyN g l par b, 0) else ([], 1)) else ([], 7)
def cap (c : UInt8) : Bool := decide (65 ≤ c.toNat) && decide (c.toNat ≤ 90)
def caps (l : List UInt8) : Bool := !l.isEmpty && l.all cap
def ixF : List (List UInt8) → List UInt8 → Int → Int
  | [], _, _ => -1
  | x :: r, y, k => if x = y then k else ixF r y (k + 1)
def ixN (y : List UInt8) : Int := ixF nmL y 0
def three (l : List (List UInt8)) : Option (List UInt8 × List UInt8 × List UInt8) := match l with
  | [a, b, c] => some (a, b, c)
  | _ => none
theorem three_some {l : List (List UInt8)} {a b c : List UInt8} (h : three l = some (a, b, c)) : l = [a, b, c] := by
  unfold three at h
  split at h
  · injection h with h
    injection h with h1 h
    injection h with h2 h3
    rw [h1, h2, h3]
  · cases h
theorem three_len {l : List (List UInt8)} (h : l.length = 3) : ∃ a b c, l = [a, b, c] := by
  match l, h with
  | [a, b, c], _ => exact ⟨a, b, c, rfl⟩
theorem three_none {l : List (List UInt8)} (h : l.length ≠ 3) : three l = none := by
  unfold three
  split
  · simp at h
  · rfl
def fillN (x y z : List UInt8) (n par : Int) : (Int × Int × Int × Int) × Int := if x = [67] ∧ caps y = true ∧ caps z = true then
    (if (textN (1 + ixN y) (1 + ixN z) par n).2 = 0 then ((1 + ixN y, 1 + ixN z, par, n), 0) else ((0, 0, 0, 0), (textN (1 + ixN y) (1 + ixN z) par n).2))
  else ((0, 0, 0, 0), 2)
def partsN : Option (List UInt8 × List UInt8 × List UInt8) → Option Int → Option Int → (Int × Int × Int × Int) × Int
  | some (x, y, z), some n, some par => fillN x y z n par
  | _, _, _ => ((0, 0, 0, 0), 2)
def wholeN : Option (List UInt8 × List UInt8 × List UInt8) → (Int × Int × Int × Int) × Int
  | some (a, b, c) => partsN (three (cut 45 [] a)) (prs b) (prs c)
  | none => ((0, 0, 0, 0), 2)
def parseN (s : List UInt8) : (Int × Int × Int × Int) × Int := wholeN (three (cut 47 [] s))
def joinC (c : UInt8) : List (List UInt8) → List UInt8
  | [] => []
  | [x] => x
  | x :: y :: r => x ++ c :: joinC c (y :: r)
theorem joinC_cons (c : UInt8) (x : List UInt8) {r : List (List UInt8)} (h : r ≠ []) : joinC c (x :: r) = x ++ c :: joinC c r := by
  cases r with
  | nil => exact absurd rfl h
  | cons y r => rfl
theorem join_cut (c : UInt8) (l : List UInt8) : ∀ cur, joinC c (cut c cur l) = cur ++ l := by
  induction l with
  | nil => intro cur; simp [cut, joinC]
  | cons b t ih =>
    intro cur
    unfold cut
    by_cases h : b = c
    · subst h
      rw [if_pos rfl, joinC_cons _ _ (cut_ne _ _ _), ih]
      rfl
    · rw [if_neg h, ih, List.append_assoc]
      rfl
theorem txt_no47 (n : Int) : (47 : UInt8) ∉ txt n := by
  intro h
  have hd : ∀ m, (47 : UInt8) ∉ digs m := fun m hm => by
    have := (canon_all (digs_canon m)).2 47 hm
    revert this
    decide
  unfold txt at h
  split at h
  · rcases List.mem_cons.1 h with e | e
    · revert e; decide
    · exact hd _ e
  · exact hd _ h
theorem head_facts {g l : Int} (hg : kok g = true) (hl : kok l = true) : (47 : UInt8) ∉ headN g l ∧ cut 45 [] (headN g l) = [[67], nm g, nm l] := by
  rw [kok_iff] at hg hl
  rcases hg with rfl | rfl | rfl | rfl | rfl <;> rcases hl with rfl | rfl | rfl | rfl | rfl <;> exact ⟨by decide, by rfl⟩
theorem nm_facts {g : Int} (hg : kok g = true) : caps (nm g) = true ∧ 1 + ixN (nm g) = g := by
  rw [kok_iff] at hg
  rcases hg with rfl | rfl | rfl | rfl | rfl <;> exact ⟨by decide, by rfl⟩
theorem cut_body {g l par b : Int} (hg : kok g = true) (hl : kok l = true) : cut 47 [] (bodyN g l par b) = [headN g l, txt b, txt par] := by
  unfold bodyN
  rw [cut_app 47 _ _ (head_facts hg hl).1, cut_app 47 _ _ (txt_no47 b), cut_none 47 _ (txt_no47 par)]
  rfl
theorem parse_text {g l par b : Int} (h : (textN g l par b).2 = 0) (hp : -9223372036854775808 ≤ par ∧ par ≤ 9223372036854775807) : parseN (textN g l par b).1 = ((g, l, par, b), 0) := by
  unfold textN at h
  by_cases hk : (kok g && kok l) = true
  · rw [if_pos hk] at h
    have hk' := hk
    rw [Bool.and_eq_true] at hk'
    obtain ⟨hg, hl⟩ := hk'
    by_cases hb : bok b = true
    · have e : textN g l par b = (bodyN g l par b, 0) := by unfold textN; rw [if_pos hk, if_pos hb]
      have hb' := hb
      unfold bok at hb'
      rw [Bool.and_eq_true, decide_eq_true_iff, decide_eq_true_iff] at hb'
      rw [e]
      show wholeN (three (cut 47 [] (bodyN g l par b))) = _
      rw [cut_body hg hl]
      show partsN (three (cut 45 [] (headN g l))) (prs (txt b)) (prs (txt par)) = _
      rw [(head_facts hg hl).2, prs_txt (show -9223372036854775808 ≤ b ∧ b ≤ 9223372036854775807 by omega), prs_txt hp]
      show fillN [67] (nm g) (nm l) b par = _
      unfold fillN
      rw [if_pos ⟨rfl, (nm_facts hg).1, (nm_facts hl).1⟩, (nm_facts hg).2, (nm_facts hl).2, e, if_pos rfl]
    · rw [if_neg hb] at h
      cases h
  · rw [if_neg hk] at h
    cases h
theorem ixF_at : ∀ (r : List (List UInt8)) (y : List UInt8) (k : Int), 0 ≤ k → 0 ≤ ixF r y k → k ≤ ixF r y k ∧ r.getD (ixF r y k - k).toNat [] = y
  | [], y, k, hk, h => by
    unfold ixF at h
    omega
  | x :: r, y, k, hk, h => by
    unfold ixF at h ⊢
    by_cases e : x = y
    · rw [if_pos e]
      refine ⟨Int.le_refl _, ?_⟩
      rw [Int.sub_self]
      exact e
    · rw [if_neg e] at h ⊢
      obtain ⟨h1, h2⟩ := ixF_at r y (k + 1) (by omega) h
      refine ⟨by omega, ?_⟩
      rw [show (ixF r y (k + 1) - k).toNat = (ixF r y (k + 1) - (k + 1)).toNat + 1 by omega]
      exact h2
theorem nm_ix {y : List UInt8} (h : kok (1 + ixN y) = true) : nm (1 + ixN y) = y := by
  unfold kok at h
  rw [Bool.and_eq_true, decide_eq_true_iff, decide_eq_true_iff] at h
  have := (ixF_at nmL y 0 (Int.le_refl _) (show 0 ≤ ixN y by omega)).2
  unfold nm
  rw [show (1 + ixN y - 1).toNat = (ixF nmL y 0 - 0).toNat by unfold ixN; omega]
  exact this
theorem text_ok {g l par b : Int} (h : (textN g l par b).2 = 0) : (kok g = true ∧ kok l = true) ∧ textN g l par b = (bodyN g l par b, 0) := by
  unfold textN at h ⊢
  by_cases hk : (kok g && kok l) = true
  · rw [if_pos hk] at h ⊢
    refine ⟨Bool.and_eq_true_iff.1 hk, ?_⟩
    by_cases hb : bok b = true
    · rw [if_pos hb]
    · rw [if_neg hb] at h
      cases h
  · rw [if_neg hk] at h
    cases h
def Back (s : List UInt8) (r : (Int × Int × Int × Int) × Int) : Prop := (r.2 = 0 → textN r.1.1 r.1.2.1 r.1.2.2.1 r.1.2.2.2 = (s, 0)) ∧ (r.2 ≠ 0 → r.1 = (0, 0, 0, 0))
theorem Back.bad (s : List UInt8) {k : Int} (h : k ≠ 0) : Back s ((0, 0, 0, 0), k) := ⟨fun e => absurd e h, fun _ => rfl⟩
theorem text_parse (s : List UInt8) : Back s (parseN s) := by
  have hj := join_cut 47 s []
  unfold parseN
  cases h3 : three (cut 47 [] s) with
  | none => exact Back.bad s (by decide)
  | some abc =>
    obtain ⟨a, b, c⟩ := abc
    rw [three_some h3] at hj
    have hj2 := join_cut 45 a []
    show Back s (partsN (three (cut 45 [] a)) (prs b) (prs c))
    cases k3 : three (cut 45 [] a) with
    | none => exact Back.bad s (by decide)
    | some xyz =>
      obtain ⟨x, y, z⟩ := xyz
      rw [three_some k3] at hj2
      cases hb : prs b with
      | none => exact Back.bad s (by decide)
      | some n =>
        cases hc : prs c with
        | none => exact Back.bad s (by decide)
        | some par =>
          show Back s (fillN x y z n par)
          unfold fillN
          by_cases h1 : x = [67] ∧ caps y = true ∧ caps z = true
          · rw [if_pos h1]
            by_cases h0 : (textN (1 + ixN y) (1 + ixN z) par n).2 = 0
            · rw [if_pos h0]
              refine ⟨fun _ => ?_, fun h => absurd rfl h⟩
              obtain ⟨⟨kg, kl⟩, e⟩ := text_ok h0
              show textN (1 + ixN y) (1 + ixN z) par n = (s, 0)
              rw [e]
              congr 1
              unfold bodyN headN
              rw [nm_ix kg, nm_ix kl, ← (prs_some hb).2, ← (prs_some hc).2]
              obtain ⟨rfl, -, -⟩ := h1
              have e2 : s = a ++ 47 :: (b ++ 47 :: c) := hj.symm
              have e3 : a = [67] ++ 45 :: (y ++ 45 :: z) := hj2.symm
              rw [e2, e3]
              rfl
            · rw [if_neg h0]
              exact Back.bad s h0
          · rw [if_neg h1]
            exact Back.bad s (by decide)
theorem body_len {g l par b : Int} (hg : kok g = true) (hl : kok l = true) (hp : -9223372036854775808 ≤ par ∧ par ≤ 9223372036854775807) (hb : -9223372036854775808 ≤ b ∧ b ≤ 9223372036854775807) : (bodyN g l par b).length ≤ 60 := by
  have h1 := txt_len hp
  have h2 := txt_len hb
  have h3 : (headN g l).length ≤ 10 := by
    rw [kok_iff] at hg hl
    rcases hg with rfl | rfl | rfl | rfl | rfl <;> rcases hl with rfl | rfl | rfl | rfl | rfl <;> decide
  unfold bodyN
  simp only [List.length_append, List.length_cons]
  omega
end Go.Proofs.YtfnmggmgdmokcaaGreatDoor.Na

/- make of a slice whose elements have several cells. -/
namespace Go.Proofs.YtfnmggmgdmokcaaGreatDoor
open Go.RowKit

theorem made_flat (z : Array Value) (n : Nat) : madeCells z (n * z.size) = ((List.replicate n z.toList).flatten).toArray := by
  apply Array.ext
  · simp [madeCells]
  · intro i h1 h2
    have hi : i < n * z.size := by simpa [madeCells] using h1
    have hz : 0 < z.size := Nat.pos_of_ne_zero (fun h => by rw [h] at hi; simp at hi)
    have hm : i % z.size < z.size := Nat.mod_lt _ hz
    have key : ∀ n i, i < n * z.size → ((List.replicate n z.toList).flatten)[i]? = z[i % z.size]? := by
      intro n
      induction n with
      | zero => intro i hi; simp at hi
      | succ n ih =>
        intro i hi
        rw [List.replicate_succ, List.flatten_cons]
        by_cases hlt : i < z.size
        · rw [List.getElem?_append_left (by simpa using hlt), Nat.mod_eq_of_lt hlt]
          simp
        · rw [List.getElem?_append_right (by simp; omega), ih _ (by rw [Nat.add_mul] at hi; simp; omega)]
          simp only [Array.length_toList]
          rw [← Nat.mod_eq_sub_mod (by omega)]
    have h3 := key n i hi
    rw [List.getElem?_eq_getElem (by simpa using h2), Array.getElem?_eq_getElem hm] at h3
    simp only [madeCells, Array.getElem_map, Array.getElem_range, List.getElem_toArray]
    rw [Option.some.inj h3]
    simp [hm]

theorem run_make_rows {P : Program} (t e : TypeId) (z : Value) (size bytes : Nat) (ht : P.underlying t = some (.slice e)) (hinfo : (P.info? e).map (fun i => (i.zero, i.size, i.bytes)) = some (some z, size, bytes)) (hz1 : z.cells.size = size)
    (kl kc : IntKind) (n : Nat) (hbytes : bytes * n ≤ 281474976710656) (h63 : n ≤ 9223372036854775807) (w : World) :
    (Instr.makeSlice t (.int kl (n : Int)) (.int kc (n : Int))).run P w = .ok (.slice (some ⟨w.heap.size, 0, none⟩) n n) (w.alloc (.cells ((List.replicate n z.cells.toList).flatten).toArray e)) := by
  obtain ⟨i, hi, hzz⟩ := Option.map_eq_some_iff.1 hinfo
  simp only [Prod.mk.injEq] at hzz
  obtain ⟨hz, hs, hb⟩ := hzz
  have hb' : (i.bytes : Int) * (n : Int) ≤ 281474976710656 := by
    have h : ((i.bytes * n : Nat) : Int) ≤ 281474976710656 := by rw [hb]; omega
    rwa [Int.natCast_mul] at h
  have hr := run_make (P := P) w t e i z ht hi hz kl kc n n (by omega) (Int.le_refl _) hb' (by omega)
  simp only [Int.toNat_natCast, hs, ← hz1, made_flat] at hr
  exact hr
end Go.Proofs.YtfnmggmgdmokcaaGreatDoor

/- The reference's Same: are numbers the same? -/
namespace Go.Proofs.YtfnmggmgdmokcaaGreatDoor.Ara
open Go.RowKit

def decI (n : Int) : List Value := [.int .i64 n]
theorem flatI (l : List Int) : l.flatMap decI = l.map (Value.int .i64) := by
  induction l with
  | nil => rfl
  | cons a l ih => rw [List.flatMap_cons, List.map_cons, ih]; rfl
end Go.Proofs.YtfnmggmgdmokcaaGreatDoor.Ara

/- Topologies where no text of numbers is: the names that their texts open. -/
namespace Go.Proofs.YtfnmggmgdmokcaaGreatDoor.Li
open Go.RowKit

theorem nx {w a b : World} (h : Below w.heap.size w a) (k : Below a.heap.size a b) : Below w.heap.size w b := h.trans (k.mono h.size)
end Go.Proofs.YtfnmggmgdmokcaaGreatDoor.Li
namespace Go.Proofs.YtfnmggmgdmokcaaGreatDoor.De
open Go.RowKit

theorem infoI : (Tryz.prog.info? 3).map (fun i => (i.zero, i.size, i.bytes)) = some (some (.int .i64 0), 1, 8) := by kernel_rfl
end Go.Proofs.YtfnmggmgdmokcaaGreatDoor.De

/- Trees of parents, their leaves and depths; trees that part evenly: the plain law. -/
namespace Go.Proofs.YtfnmggmgdmokcaaGreatDoor.Tp

def treeP (p : List Int) : Prop := ∀ v, v < p.length → if v = 0 then p.getD v 0 = -1 else 0 ≤ p.getD v 0 ∧ p.getD v 0 < (v : Int)
instance (p : List Int) : Decidable (treeP p) := by unfold treeP; infer_instance
def deepF (p : List Int) : Nat → Int → Nat
  | 0, _ => 0
  | k + 1, v => if 0 ≤ v ∧ v < (p.length : Int) then deepF p k (p.getD v.toNat 0) + 1 else 0
def dep (p : List Int) (v : Int) : Nat := deepF p p.length v
def leafP (p : List Int) (v : Int) : Prop := 0 ≤ v ∧ v < (p.length : Int) ∧ v ∉ p
instance (p : List Int) (v : Int) : Decidable (leafP p v) := by unfold leafP; infer_instance
def lvK (p : List Int) (k : Nat) : List Int := ((List.range k).map fun v : Nat => (v : Int)).filter fun v => decide (v ∉ p)
def lvs (p : List Int) : List Int := lvK p p.length
def flatP (p : List Int) : Prop := ∀ v ∈ lvs p, ∀ w ∈ lvs p, dep p v = dep p w ∧ dep p v ≤ 5
instance (p : List Int) : Decidable (flatP p) := by unfold flatP; infer_instance
def manyP (p t : List Int) : Prop := p.length < 1 ∨ 32 < p.length ∨ t.length < 1 ∨ 32 < t.length
instance (p t : List Int) : Decidable (manyP p t) := by unfold manyP; infer_instance
def chk (p t : List Int) : Int := if manyP p t then 8 else if treeP p ∧ flatP p then (if ∀ x ∈ t, leafP p x then 0 else 4) else 9
theorem lvK_succ (p : List Int) (k : Nat) : lvK p (k + 1) = if (k : Int) ∈ p then lvK p k else lvK p k ++ [(k : Int)] := by
  unfold lvK
  rw [List.range_succ, List.map_append, List.filter_append]
  by_cases h : (k : Int) ∈ p
  · simp [h]
  · simp [h]
theorem lvK_len (p : List Int) (k : Nat) : (lvK p k).length ≤ k := by
  unfold lvK
  refine Nat.le_trans (List.length_filter_le _ _) ?_
  simp
theorem mem_lvK {p : List Int} {k : Nat} {v : Int} : v ∈ lvK p k ↔ 0 ≤ v ∧ v < (k : Int) ∧ v ∉ p := by
  unfold lvK
  rw [List.mem_filter, List.mem_map]
  constructor
  · rintro ⟨⟨a, ha, rfl⟩, hb⟩
    rw [List.mem_range] at ha
    exact ⟨by omega, by omega, by simpa using hb⟩
  · rintro ⟨h1, h2, h3⟩
    exact ⟨⟨v.toNat, by rw [List.mem_range]; omega, by omega⟩, by simpa using h3⟩
theorem mem_lvs {p : List Int} {v : Int} : v ∈ lvs p ↔ leafP p v := mem_lvK
theorem getD_mem {p : List Int} {v : Nat} (h : v < p.length) : p.getD v 0 ∈ p := by
  rw [List.getD_eq_getElem?_getD, List.getElem?_eq_getElem h]
  exact List.getElem_mem h
theorem mem_getD {p : List Int} {x : Int} (h : x ∈ p) : ∃ v, v < p.length ∧ p.getD v 0 = x := by
  obtain ⟨v, hv, rfl⟩ := List.getElem_of_mem h
  exact ⟨v, hv, by rw [List.getD_eq_getElem?_getD, List.getElem?_eq_getElem hv]; rfl⟩

theorem deepF_no (p : List Int) (f : Nat) {v : Int} (h : ¬ (0 ≤ v ∧ v < (p.length : Int))) : deepF p f v = 0 := by
  cases f with
  | zero => rfl
  | succ f => unfold deepF; rw [if_neg h]
theorem deepF_le (p : List Int) : ∀ (f : Nat) (v : Int), deepF p f v ≤ f
  | 0, _ => Nat.le_refl _
  | f + 1, v => by
    unfold deepF
    have := deepF_le p f (p.getD v.toNat 0)
    split <;> omega
theorem dep_le (p : List Int) (v : Int) : dep p v ≤ p.length := deepF_le _ _ _
theorem deepF_fuel {p : List Int} (h : treeP p) : ∀ (k v : Nat), v ≤ k → v < p.length → ∀ f g, v < f → v < g → deepF p f (v : Int) = deepF p g (v : Int)
  | k, v, hk, hv, 0, g, hf, hg => by omega
  | k, v, hk, hv, f + 1, 0, hf, hg => by omega
  | k, v, hk, hv, f + 1, g + 1, hf, hg => by
    have ht := h v hv
    have e : ((v : Int)).toNat = v := by omega
    have hc : 0 ≤ (v : Int) ∧ (v : Int) < (p.length : Int) := by omega
    conv => lhs; unfold deepF
    conv => rhs; unfold deepF
    rw [if_pos hc, if_pos hc, e]
    by_cases h0 : v = 0
    · rw [if_pos h0] at ht
      rw [ht, deepF_no p f (by omega), deepF_no p g (by omega)]
    · rw [if_neg h0] at ht
      obtain ⟨u, hu⟩ : ∃ u : Nat, p.getD v 0 = (u : Int) := ⟨(p.getD v 0).toNat, by omega⟩
      rw [hu] at ht ⊢
      cases k with
      | zero => omega
      | succ k => rw [deepF_fuel h k u (by omega) (by omega) f g (by omega) (by omega)]
theorem dep_root {p : List Int} (h : treeP p) (hn : 0 < p.length) : dep p 0 = 1 := by
  have ht := h 0 hn
  rw [if_pos rfl] at ht
  obtain ⟨n, e⟩ : ∃ n, p.length = n + 1 := ⟨p.length - 1, by omega⟩
  unfold dep
  rw [e]
  unfold deepF
  rw [if_pos (by omega)]
  show deepF p n (p.getD 0 0) + 1 = 1
  rw [ht, deepF_no p n (by omega)]
theorem dep_step {p : List Int} (h : treeP p) {v : Nat} (hv : v < p.length) (h0 : v ≠ 0) : dep p (v : Int) = dep p (p.getD v 0) + 1 := by
  have ht := h v hv
  rw [if_neg h0] at ht
  obtain ⟨n, e⟩ : ∃ n, p.length = n + 1 := ⟨p.length - 1, by omega⟩
  have e2 : ((v : Int)).toNat = v := by omega
  unfold dep
  conv => lhs; rw [e]
  conv => lhs; unfold deepF
  rw [if_pos (by omega), e2]
  obtain ⟨u, hu⟩ : ∃ u : Nat, p.getD v 0 = (u : Int) := ⟨(p.getD v 0).toNat, by omega⟩
  rw [hu] at ht ⊢
  rw [deepF_fuel h u u (Nat.le_refl _) (by omega) n p.length (by omega) (by omega)]
theorem lvs_ne {p : List Int} (h : treeP p) (hn : 0 < p.length) : lvs p ≠ [] := by
  have : ((p.length - 1 : Nat) : Int) ∈ lvs p := by
    rw [mem_lvs]
    refine ⟨by omega, by omega, fun hm => ?_⟩
    obtain ⟨v, hv, e⟩ := mem_getD hm
    have ht := h v hv
    by_cases h0 : v = 0
    · rw [if_pos h0] at ht; omega
    · rw [if_neg h0] at ht; omega
  intro e
  rw [e] at this
  cases this
theorem chk_many {p t : List Int} (h : manyP p t) : chk p t = 8 := by unfold chk; rw [if_pos h]
theorem chk_tree {p t : List Int} (h : ¬ manyP p t) (h2 : ¬ treeP p ∨ ¬ flatP p) : chk p t = 9 := by
  unfold chk
  rw [if_neg h, if_neg]
  rintro ⟨h3, h4⟩
  rcases h2 with h2 | h2
  · exact h2 h3
  · exact h2 h4
theorem chk_fit {p t : List Int} (h : ¬ manyP p t) (h2 : treeP p) (h3 : flatP p) : chk p t = if ∀ x ∈ t, leafP p x then 0 else 4 := by
  unfold chk
  rw [if_neg h, if_pos ⟨h2, h3⟩]
theorem chk_ok {p t : List Int} (h : chk p t = 0) : ¬ manyP p t ∧ treeP p ∧ flatP p ∧ ∀ x ∈ t, leafP p x := by
  unfold chk at h
  split at h
  · omega
  rename_i h1
  split at h
  · rename_i h2
    split at h
    · rename_i h3
      exact ⟨h1, h2.1, h2.2, h3⟩
    · omega
  · omega
/-! trees that part evenly -/
def rngI (a b : Nat) : List Int := (List.range' a (b - a)).map fun v : Nat => (v : Int)
def grow (l : List Int) (k : Nat) : List Int := l.flatMap (List.replicate k)
def evB (lim : Nat) : List Int → List Int → Nat → Option (List Int × Nat)
  | [], p, f => some (p, f)
  | n :: r, p, f => if lim < (p ++ grow (rngI f p.length) n.toNat).length then none else evB lim r (p ++ grow (rngI f p.length) n.toNat) p.length
theorem evB_len {lim : Nat} : ∀ (parts p : List Int) (f : Nat) (q : List Int) (g : Nat), evB lim parts p f = some (q, g) → p.length ≤ q.length
  | [], p, f, q, g, h => by injection h with h; injection h with h1 h2; subst h1; omega
  | n :: r, p, f, q, g, h => by
    unfold evB at h
    split at h
    · cases h
    · have := evB_len r _ _ q g h
      rw [List.length_append] at this
      omega
theorem evB_33 : ∀ (parts p : List Int) (f : Nat), p.length ≤ 32 → (evB 33 parts p f = none → evB 32 parts p f = none) ∧
    ∀ q g, evB 33 parts p f = some (q, g) → (q.length ≤ 32 ∧ evB 32 parts p f = some (q, g)) ∨ (q.length = 33 ∧ evB 32 parts p f = none)
  | [], p, f, hp => ⟨fun h => h, fun q g h => .inl ⟨by injection h with h; injection h with h1 _; subst h1; exact hp, h⟩⟩
  | n :: r, p, f, hp => by
    unfold evB
    by_cases h1 : 33 < (p ++ grow (rngI f p.length) n.toNat).length
    · rw [if_pos h1, if_pos (by omega)]
      exact ⟨fun h => h, fun q g h => by cases h⟩
    · rw [if_neg h1]
      by_cases h2 : 32 < (p ++ grow (rngI f p.length) n.toNat).length
      · rw [if_pos h2]
        refine ⟨fun _ => rfl, fun q g h => .inr ⟨?_, rfl⟩⟩
        have h3 := evB_len _ _ _ _ _ h
        have h4 : q.length ≤ 33 := evB_lim r _ _ q g h (by omega)
        omega
      · rw [if_neg h2]
        exact evB_33 r _ _ (by omega)
where
  evB_lim : ∀ (parts p : List Int) (f : Nat) (q : List Int) (g : Nat), evB 33 parts p f = some (q, g) → p.length ≤ 33 → q.length ≤ 33
    | [], p, f, q, g, h, hp => by injection h with h; injection h with h1 h2; subst h1; exact hp
    | n :: r, p, f, q, g, h, hp => by
      unfold evB at h
      split at h
      · cases h
      · exact evB_lim r _ _ q g h (by omega)
end Go.Proofs.YtfnmggmgdmokcaaGreatDoor.Tp

