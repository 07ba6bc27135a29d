/- Walks of numbers' texts: digits, next, Take, Parse of the program. -/
import Derived.Test.YtcfdphfochfeoaaDoorDe2
import Derived.Test.YtcfdphfochfeoaaDoorShelf
import Derived.Test.YtcfdphfochfeoaaDoorLi3
namespace Go.Proofs.YtcfdphfochfeoaaDoor.De
open Go.RowKit Go.Proofs.YtcfdphfochfeoaaDoor.Li

theorem ix_two (l : List UInt8) (i j : Nat) (h : i + j < l.length) (W : World) : (Instr.index 9 (vS l) (.int .i64 ((i : Int) + (j : Int)))).run Tryd.prog W = .ok (.int .u8 ((l.getD (i + j) 0).toNat : Int)) W := by
  have := ix_str (B l) (i + j) (by rw [size_B]; exact h) W
  rw [Int.natCast_add] at this
  exact this
theorem tw_cons_yes {l : List UInt8} {i : Nat} (h : i < l.length) (hd : isD (l.getD i 0) = true) : ((l.drop i).takeWhile isD).length = 1 + ((l.drop (i + 1)).takeWhile isD).length := by
  rw [drop_cons _ _ h, List.takeWhile_cons_of_pos hd, List.length_cons]; omega
theorem tw_cons_no {l : List UInt8} {i : Nat} (h : i < l.length) (hd : isD (l.getD i 0) = false) : ((l.drop i).takeWhile isD).length = 0 := by
  rw [drop_cons _ _ h, List.takeWhile_cons_of_neg (by rw [hd]; simp)]; rfl
theorem notD {c : UInt8} (h : ¬ (48 ≤ c.toNat ∧ c.toNat ≤ 57)) : isD c = false := by
  cases hq : isD c with
  | false => rfl
  | true => exact absurd ((isD_iff c).1 hq) h
set_option maxRecDepth 100000 in
set_option maxHeartbeats 1000000 in
theorem digits_any (l : List UInt8) (i : Nat) (hi : i ≤ l.length) (hl : l.length ≤ 4096) (w : World) : Calls Tryd.prog 88 #[vS l, .int .i64 (i : Int)] w fun e w' => e = .returned (.int .i64 (((l.drop i).takeWhile isD).length : Int)) ∧ w' = w := by
  have hsB := size_B l
  go_enter Tryd.func88, Tryd.ntmps88
  go_wp2_with fail
  go_loopw [5] (fun n wr => ∃ j : Nat, i + j ≤ l.length ∧ n = .int .i64 (j : Int) ∧ ((l.drop i).takeWhile isD).length = j + ((l.drop (i + j)).takeWhile isD).length ∧ wr = w) (fun n _ => l.length - (intOf n).toNat)
  case atStart => exact ⟨0, by omega, rfl, by simp, rfl⟩
  case round =>
    obtain ⟨j, hj, rfl, hn, hwr⟩ := hrel
    subst hwr
    have HN := Lib.hid hn
    clear hn
    by_cases hlt : i + j < l.length
    · have hix := ix_two l i j hlt
      have i1 : (i : Int) + (j : Int) < (l.length : Int) := by omega
      have hyes := Lib.hid (fun h => tw_cons_yes hlt h)
      have hno := Lib.hid (fun h => tw_cons_no hlt h)
      have hiff := Lib.hid (isD_iff (l.getD (i + j) 0))
      generalize l.getD (i + j) 0 = c at *
      by_cases h48 : 48 ≤ c.toNat
      · have i2 : (48 : Int) ≤ (c.toNat : Int) := by omega
        by_cases h57 : c.toNat ≤ 57
        · have i3 : (c.toNat : Int) ≤ 57 := by omega
          have HS := Lib.hid (show ((l.drop i).takeWhile isD).length = (j + 1) + ((l.drop (i + (j + 1))).takeWhile isD).length by rw [HN.out, hyes.out (hiff.out.2 ⟨h48, h57⟩)]; simp only [Nat.add_assoc])
          clear hyes hno hiff
          go_wp2_with fail
          go_roundw
          case rel => exact ⟨j + 1, by omega, by go_num, HS.out, by trivial⟩
          case measure => simp [intOf]; omega
        · have i3 : ¬ (c.toNat : Int) ≤ 57 := by omega
          have HS := Lib.hid (show ((l.drop i).takeWhile isD).length = j by rw [HN.out, hno.out (notD (fun hq => h57 hq.2)), Nat.add_zero])
          clear hyes hno hiff
          go_wp2_with fail
          go_ret
          exact ⟨by rw [HS.out]; rfl, by trivial⟩
      · have i2 : ¬ (48 : Int) ≤ (c.toNat : Int) := by omega
        have HS := Lib.hid (show ((l.drop i).takeWhile isD).length = j by rw [HN.out, hno.out (notD (fun hq => h48 hq.1)), Nat.add_zero])
        clear hyes hno hiff
        go_wp2_with fail
        go_ret
        exact ⟨by rw [HS.out]; rfl, by trivial⟩
    · have i1 : ¬ (i : Int) + (j : Int) < (l.length : Int) := by omega
      have HS := Lib.hid (show ((l.drop i).takeWhile isD).length = j by rw [HN.out, List.drop_eq_nil_of_le (by omega)]; rfl)
      go_wp2_with fail
      go_ret
      exact ⟨by rw [HS.out]; rfl, by trivial⟩
theorem next_neg (v d : Nat) (hv : v ≤ 9223372036854775808) (hd : d < 10) (w : World) : Calls Tryd.prog 89 #[.int .i64 (-(v : Int)), .int .i64 (d : Int), .bool true] w fun e w' =>
    e = .returned (.tuple (if 10 * v + d ≤ 9223372036854775808 then #[.int .i64 (-((10 * v + d : Nat) : Int)), .bool true] else #[.int .i64 (-(v : Int)), .bool false])) ∧ w' = w := by
  have ht : (-9223372036854775808 + (d : Int)).tdiv 10 = -(((9223372036854775808 - d) / 10 : Nat) : Int) := by
    have : (-9223372036854775808 + (d : Int)) = -((9223372036854775808 - d : Nat) : Int) := by omega
    rw [this, Int.neg_tdiv]
    simp [Int.ofNat_tdiv]
  have hw := IntWalk.i64_in (-(((9223372036854775808 - d) / 10 : Nat) : Int)) (by omega)
  have i0 : (d : Int) < 10 := by omega
  have i1 : (0 : Int) ≤ (d : Int) := by omega
  have i2 : (v : Int) ≤ 9223372036854775808 := by omega
  by_cases h : 10 * v + d ≤ 9223372036854775808
  · rw [if_pos h]
    have q : ¬ -(v : Int) < -(((9223372036854775808 - d) / 10 : Nat) : Int) := by omega
    have HE := Lib.hid (show -(v : Int) * 10 - (d : Int) = -(10 * (v : Int) + (d : Int)) by omega)
    have i3 : -9223372036854775808 ≤ -(v : Int) * 10 := by omega
    have i4 : -9223372036854775808 ≤ -(v : Int) * 10 - (d : Int) := by omega
    generalize (((9223372036854775808 - d) / 10 : Nat) : Int) = z at *
    clear h
    go_enter Tryd.func89, Tryd.ntmps89
    go_wp2_with fail
    go_ret2
    exact ⟨by rw [← HE.out]; rfl, rfl⟩
  · rw [if_neg h]
    have q : -(v : Int) < -(((9223372036854775808 - d) / 10 : Nat) : Int) := by omega
    generalize (((9223372036854775808 - d) / 10 : Nat) : Int) = z at *
    clear h
    go_enter Tryd.func89, Tryd.ntmps89
    go_wp2_with fail
    go_ret2
    exact ⟨rfl, rfl⟩
theorem next_pos (v d : Nat) (hv : v ≤ 9223372036854775807) (hd : d < 10) (w : World) : Calls Tryd.prog 89 #[.int .i64 (v : Int), .int .i64 (d : Int), .bool false] w fun e w' =>
    e = .returned (.tuple (if 10 * v + d ≤ 9223372036854775807 then #[.int .i64 ((10 * v + d : Nat) : Int), .bool true] else #[.int .i64 (v : Int), .bool false])) ∧ w' = w := by
  have ht : (9223372036854775807 - (d : Int)).tdiv 10 = (((9223372036854775807 - d) / 10 : Nat) : Int) := by
    have : (9223372036854775807 - (d : Int)) = ((9223372036854775807 - d : Nat) : Int) := by omega
    rw [this]
    simp [Int.ofNat_tdiv]
  have ht2 : (9223372036854775807 - (d : Int)) / 10 = (((9223372036854775807 - d) / 10 : Nat) : Int) := by omega
  have hw := IntWalk.i64_in ((((9223372036854775807 - d) / 10 : Nat) : Int)) (by omega)
  have i0 : (d : Int) < 10 := by omega
  have i1 : (0 : Int) ≤ (d : Int) := by omega
  have i2 : (v : Int) ≤ 9223372036854775807 := by omega
  have i5 : (0 : Int) ≤ (v : Int) := by omega
  by_cases h : 10 * v + d ≤ 9223372036854775807
  · rw [if_pos h]
    have q : ¬ (((9223372036854775807 - d) / 10 : Nat) : Int) < (v : Int) := by omega
    have HE := Lib.hid (show (v : Int) * 10 + (d : Int) = 10 * (v : Int) + (d : Int) by omega)
    have i3 : (v : Int) * 10 ≤ 9223372036854775807 := by omega
    have i4 : (v : Int) * 10 + (d : Int) ≤ 9223372036854775807 := by omega
    generalize (((9223372036854775807 - d) / 10 : Nat) : Int) = z at *
    clear h
    go_enter Tryd.func89, Tryd.ntmps89
    go_wp2_with fail
    go_ret2
    exact ⟨by rw [← HE.out]; rfl, rfl⟩
  · rw [if_neg h]
    have q : (((9223372036854775807 - d) / 10 : Nat) : Int) < (v : Int) := by omega
    generalize (((9223372036854775807 - d) / 10 : Nat) : Int) = z at *
    clear h
    go_enter Tryd.func89, Tryd.ntmps89
    go_wp2_with fail
    go_ret2
    exact ⟨rfl, rfl⟩

theorem prefix45 (l : List UInt8) : Lib.hasPrefix l [45] = decide (l.head? = some 45) := by
  unfold Lib.hasPrefix
  cases l with
  | nil => rfl
  | cons c t =>
    by_cases h : c = 45
    · subst h; simp [List.isPrefixOf]
    · have h' : ¬ (45 : UInt8) = c := fun e => h e.symm
      simp [List.isPrefixOf, h, h']
theorem prefix_any (l : List UInt8) (w : World) : Calls Tryd.prog 87 #[vS l, .string ⟨#[45]⟩] w fun e w' => e = .returned (.bool (decide (l.head? = some 45))) ∧ w' = w := by
  have := Tryd.strings_HasPrefix (B l) ⟨#[45]⟩ w
  rw [show Lib.hasPrefix (B l).data.toList (⟨#[45]⟩ : ByteArray).data.toList = decide (l.head? = some 45) from prefix45 l] at this
  exact this
theorem val_succ {l : List UInt8} {k : Nat} (h : k < l.length) : val (l.take (k + 1)) = 10 * val (l.take k) + dv (l.getD k 0) := by
  rw [List.take_succ_eq_append_getElem h, val_snoc, getD_at h]
theorem isD_tw {l : List UInt8} {k : Nat} (h : k < (l.takeWhile isD).length) : k < l.length ∧ isD (l.getD k 0) = true := by
  have hl := len_split isD l
  have hk : k < l.length := by omega
  refine ⟨hk, ?_⟩
  rw [getD_at hk]
  exact all_take isD l (k + 1) h l[k] (by rw [List.take_succ_eq_append_getElem hk]; exact List.mem_append_right _ (List.mem_singleton.2 rfl))
set_option maxRecDepth 100000 in
set_option maxHeartbeats 2000000 in
theorem take_pos_any (l : List UInt8) (hl : l.length ≤ 4096) (h45 : l.head? ≠ some 45) (w : World) : Calls Tryd.prog 31 #[vS l] w fun e w' => e = .returned (.tuple #[.int .i64 (take l).1, .int .i64 ((take l).2 : Int)]) ∧ w' = w := by
  have hsB := size_B l
  have HP := Lib.hid (show Calls Tryd.prog 87 #[vS l, .string ⟨#[45]⟩] w fun e w' => e = .returned (.bool false) ∧ w' = w by
    have := prefix_any l w
    rw [decide_eq_false h45] at this
    exact this)
  have HD := Lib.hid (show Calls Tryd.prog 88 #[vS l, .int .i64 0] w fun e w' => e = .returned (.int .i64 ((l.takeWhile isD).length : Int)) ∧ w' = w from digits_any l 0 (Nat.zero_le _) hl w)
  obtain ⟨T1, T2, T3⟩ := take_pos h45
  have hml := len_split isD l
  obtain ⟨m, hm⟩ : ∃ m, (l.takeWhile isD).length = m := ⟨_, rfl⟩
  by_cases h0 : m = 0
  · rw [T1 (by omega)]
    rw [hm, h0] at HD
    clear T1 T2 T3 hm hml h45
    go_enter Tryd.func31, Tryd.ntmps31
    go_wp2_with fail
    refine (HP.out).mono ?_
    rintro e wx ⟨rfl, hwx⟩
    obtain rfl := hwx.symm
    go_wp2_with fail
    refine (HD.out).mono ?_
    rintro e wx ⟨rfl, hwx⟩
    obtain rfl := hwx.symm
    go_wp2_with fail
    go_ret2
    exact ⟨rfl, rfl⟩
  · obtain ⟨hk0, hd0⟩ := isD_tw (l := l) (k := 0) (by omega)
    have hix0 : ∀ W, (Instr.index 9 (vS l) (.int .i64 0)).run Tryd.prog W = .ok (.int .u8 ((l.getD 0 0).toNat : Int)) W := fun W => ix_str (B l) 0 (by rw [hsB]; exact hk0) W
    have hh0 : l.head? = some (l.getD 0 0) := by cases l with
      | nil => simp at hk0
      | cons c t => rfl
    rw [isD_iff] at hd0
    have hm0 : ((m : Int) == 0) = false := nbeq_no h0
    by_cases h48 : l.getD 0 0 = 48
    · rw [T2 (by omega) (by rw [hh0, h48])]
      rw [h48] at hix0
      rw [hm] at HD
      clear T1 T2 T3 hm hml h45 hh0 hd0 h48
      go_enter Tryd.func31, Tryd.ntmps31
      go_wp2_with fail
      refine (HP.out).mono ?_
      rintro e wx ⟨rfl, hwx⟩
      obtain rfl := hwx.symm
      go_wp2_with fail
      refine (HD.out).mono ?_
      rintro e wx ⟨rfl, hwx⟩
      obtain rfl := hwx.symm
      go_wp2_with fail
      go_ret2
      exact ⟨rfl, rfl⟩
    · have T3' := Lib.hid (fun i h1 h2 h3 => T3 i h1 h2 (by rw [hh0]; exact fun e => h48 (Option.some.inj e)) h3)
      have hne : (((l.getD 0 0).toNat : Int) == 48) = false := ibeq_no (fun e => h48 (UInt8.toNat_inj.1 (by have : (48 : UInt8).toNat = 48 := rfl; omega)))
      rw [hm] at HD
      have HM := Lib.hid hm
      clear T1 T2 T3 hm hh0 hd0 h48 h45
      generalize (l.getD 0 0).toNat = c0 at *
      go_enter Tryd.func31, Tryd.ntmps31
      go_wp2_with fail
      refine (HP.out).mono ?_
      rintro e wx ⟨rfl, hwx⟩
      obtain rfl := hwx.symm
      go_wp2_with fail
      refine (HD.out).mono ?_
      rintro e wx ⟨rfl, hwx⟩
      obtain rfl := hwx.symm
      go_wp2_with fail
      clear hix0 hne
      go_loopw [7, 34] (fun n kk wr => ∃ k : Nat, k ≤ m ∧ kk = .int .i64 (k : Int) ∧ n = .int .i64 (val (l.take k) : Int) ∧ val (l.take k) ≤ 9223372036854775807 ∧ wr = w) (fun _ kk _ => m - (intOf kk).toNat)
      case atStart => exact ⟨0, Nat.zero_le _, rfl, by simp [val_nil], by simp [val_nil], rfl⟩
      case round =>
        obtain ⟨k, hk, rfl, rfl, hv, hwr⟩ := hrel
        subst hwr
        by_cases hlt : k < m
        · obtain ⟨hk1, hdk⟩ := isD_tw (l := l) (k := k) (by have := HM.out; omega)
          have HV := Lib.hid (val_succ hk1)
          have hix : ∀ W, (Instr.index 9 (vS l) (.int .i64 (k : Int))).run Tryd.prog W = .ok (.int .u8 (48 + (dv (l.getD k 0) : Int))) W := fun W => by
            have := ix_str (B l) k (by rw [hsB]; exact hk1) W
            rw [L_B, show ((l.getD k 0).toNat : Int) = 48 + (dv (l.getD k 0) : Int) by rw [isD_iff] at hdk; unfold dv; omega] at this
            exact this
          have hd9 := dv_lt hdk
          have HN := Lib.hid (next_pos (val (l.take k)) (dv (l.getD k 0)) hv hd9)
          have i1 : (k : Int) < (m : Int) := by omega
          have i2 : ((dv (l.getD k 0) : Nat) : Int) ≤ 9 := by omega
          have HVK := Lib.hid (show k = 0 → val (l.take k) = 0 by rintro rfl; simp [val_nil])
          have HE := Lib.hid (fun h1 h2 => T3'.out k h1 (by rw [HM.out]; omega) hv (.inr h2))
          rw [HV.out] at HE
          generalize dv (l.getD k 0) = d at *
          generalize val (l.take k) = v at *
          have e48 : (48 : Int) + (d : Int) - 48 = (d : Int) := by omega
          by_cases hfit : 10 * v + d ≤ 9223372036854775807
          · have HN : Hid (∀ W, Calls Tryd.prog 89 #[.int .i64 (v : Int), .int .i64 (d : Int), .bool false] W fun e w' => e = .returned (.tuple #[.int .i64 ((10 * v + d : Nat) : Int), .bool true]) ∧ w' = W) := Lib.hid (fun W => by have := HN.out W; rw [if_pos hfit] at this; exact this)
            clear HE
            go_wp2_with fail
            refine (HN.out _).mono ?_
            rintro e wx ⟨rfl, hwx⟩
            obtain rfl := hwx.symm
            go_wp2_with fail
            go_roundw
            case rel => exact ⟨k + 1, by omega, by go_num, by rw [HV.out]; simp, by rw [HV.out]; exact hfit, by trivial⟩
            case measure => simp [intOf]; omega
          · have HN : Hid (∀ W, Calls Tryd.prog 89 #[.int .i64 (v : Int), .int .i64 (d : Int), .bool false] W fun e w' => e = .returned (.tuple #[.int .i64 (v : Int), .bool false]) ∧ w' = W) := Lib.hid (fun W => by have := HN.out W; rw [if_neg hfit] at this; exact this)
            have hk0' : 1 ≤ k := by
              by_cases h : k = 0
              · have := HVK.out h; omega
              · omega
            have HE := Lib.hid (HE.out hk0' (by omega))
            go_wp2_with fail
            refine (HN.out _).mono ?_
            rintro e wx ⟨rfl, hwx⟩
            obtain rfl := hwx.symm
            go_wp2_with fail
            go_ret2
            exact ⟨by rw [HE.out]; rfl, by trivial⟩
        · obtain rfl : k = m := by omega
          have HE := Lib.hid (T3'.out k (by omega) (by rw [HM.out]; omega) hv (.inl HM.out.symm))
          generalize val (l.take k) = v at *
          have i3 : (k : Int) ≤ 4096 := by have := HM.out; omega
          go_wp2_with fail
          go_ret2
          exact ⟨by rw [HE.out]; rfl, by trivial⟩
set_option maxRecDepth 100000 in
set_option maxHeartbeats 2000000 in
theorem take_neg_any (l : List UInt8) (hl : l.length + 1 ≤ 4096) (w : World) : Calls Tryd.prog 31 #[vS (45 :: l)] w fun e w' => e = .returned (.tuple #[.int .i64 (take (45 :: l)).1, .int .i64 ((take (45 :: l)).2 : Int)]) ∧ w' = w := by
  have hsB := size_B (45 :: l)
  rw [List.length_cons] at hsB
  have HP := Lib.hid (show Calls Tryd.prog 87 #[vS (45 :: l), .string ⟨#[45]⟩] w fun e w' => e = .returned (.bool true) ∧ w' = w from prefix_any (45 :: l) w)
  have HD := Lib.hid (show Calls Tryd.prog 88 #[vS (45 :: l), .int .i64 1] w fun e w' => e = .returned (.int .i64 ((l.takeWhile isD).length : Int)) ∧ w' = w from digits_any (45 :: l) 1 (by simp) (by simpa using hl) w)
  obtain ⟨T1, T2, T3⟩ := take_neg l
  have hml := len_split isD l
  obtain ⟨m, hm⟩ : ∃ m, (l.takeWhile isD).length = m := ⟨_, rfl⟩
  by_cases h0 : m = 0
  · rw [T1 (by omega)]
    rw [hm, h0] at HD
    clear T1 T2 T3 hm hml
    go_enter Tryd.func31, Tryd.ntmps31
    go_wp2_with fail
    refine (HP.out).mono ?_
    rintro e wx ⟨rfl, hwx⟩
    obtain rfl := hwx.symm
    go_wp2_with fail
    refine (HD.out).mono ?_
    rintro e wx ⟨rfl, hwx⟩
    obtain rfl := hwx.symm
    go_wp2_with fail
    go_ret2
    exact ⟨rfl, rfl⟩
  · obtain ⟨hk0, hd0⟩ := isD_tw (l := l) (k := 0) (by omega)
    have hix0 : ∀ W, (Instr.index 9 (vS (45 :: l)) (.int .i64 1)).run Tryd.prog W = .ok (.int .u8 ((l.getD 0 0).toNat : Int)) W := fun W => ix_str (B (45 :: l)) 1 (by rw [hsB]; omega) W
    have hh0 : l.head? = some (l.getD 0 0) := by cases l with
      | nil => simp at hk0
      | cons c t => rfl
    rw [isD_iff] at hd0
    have hm0 : ((m : Int) == 0) = false := nbeq_no h0
    by_cases h48 : l.getD 0 0 = 48
    · rw [T2 (by rw [hh0, h48])]
      rw [h48] at hix0
      rw [hm] at HD
      clear T1 T2 T3 hm hml hh0 hd0 h48
      go_enter Tryd.func31, Tryd.ntmps31
      go_wp2_with fail
      refine (HP.out).mono ?_
      rintro e wx ⟨rfl, hwx⟩
      obtain rfl := hwx.symm
      go_wp2_with fail
      refine (HD.out).mono ?_
      rintro e wx ⟨rfl, hwx⟩
      obtain rfl := hwx.symm
      go_wp2_with fail
      go_ret2
      exact ⟨rfl, rfl⟩
    · have T3' := Lib.hid (fun i h1 h2 h3 => T3 i h1 h2 (by rw [hh0]; exact fun e => h48 (Option.some.inj e)) h3)
      have hne : (((l.getD 0 0).toNat : Int) == 48) = false := ibeq_no (fun e => h48 (UInt8.toNat_inj.1 (by have : (48 : UInt8).toNat = 48 := rfl; omega)))
      rw [hm] at HD
      have HM := Lib.hid hm
      clear T1 T2 T3 hm hh0 hd0 h48
      generalize (l.getD 0 0).toNat = c0 at *
      go_enter Tryd.func31, Tryd.ntmps31
      go_wp2_with fail
      refine (HP.out).mono ?_
      rintro e wx ⟨rfl, hwx⟩
      obtain rfl := hwx.symm
      go_wp2_with fail
      refine (HD.out).mono ?_
      rintro e wx ⟨rfl, hwx⟩
      obtain rfl := hwx.symm
      go_wp2_with fail
      clear hix0 hne
      go_loopw [7, 34] (fun n kk wr => ∃ k : Nat, k ≤ m ∧ kk = .int .i64 (k : Int) ∧ n = .int .i64 (-(val (l.take k) : Int)) ∧ val (l.take k) ≤ 9223372036854775808 ∧ wr = w) (fun _ kk _ => m - (intOf kk).toNat)
      case atStart => exact ⟨0, Nat.zero_le _, rfl, by simp [val_nil], by simp [val_nil], rfl⟩
      case round =>
        obtain ⟨k, hk, rfl, rfl, hv, hwr⟩ := hrel
        subst hwr
        by_cases hlt : k < m
        · obtain ⟨hk1, hdk⟩ := isD_tw (l := l) (k := k) (by have := HM.out; omega)
          have HV := Lib.hid (val_succ hk1)
          have hix : ∀ W, (Instr.index 9 (vS (45 :: l)) (.int .i64 (1 + (k : Int)))).run Tryd.prog W = .ok (.int .u8 (48 + (dv (l.getD k 0) : Int))) W := fun W => by
            have := ix_two (45 :: l) 1 k (by rw [List.length_cons]; omega) W
            rw [show (45 :: l).getD (1 + k) 0 = l.getD k 0 by rw [Nat.add_comm]; rfl, show ((l.getD k 0).toNat : Int) = 48 + (dv (l.getD k 0) : Int) by rw [isD_iff] at hdk; unfold dv; omega] at this
            exact this
          have hd9 := dv_lt hdk
          have HN := Lib.hid (next_neg (val (l.take k)) (dv (l.getD k 0)) hv hd9)
          have i1 : (k : Int) < (m : Int) := by omega
          have i2 : ((dv (l.getD k 0) : Nat) : Int) ≤ 9 := by omega
          have HVK := Lib.hid (show k = 0 → val (l.take k) = 0 by rintro rfl; simp [val_nil])
          have HE := Lib.hid (fun h1 h2 => T3'.out k h1 (by rw [HM.out]; omega) hv (.inr h2))
          rw [HV.out] at HE
          generalize dv (l.getD k 0) = d at *
          generalize val (l.take k) = v at *
          have e48 : (48 : Int) + (d : Int) - 48 = (d : Int) := by omega
          by_cases hfit : 10 * v + d ≤ 9223372036854775808
          · have HN : Hid (∀ W, Calls Tryd.prog 89 #[.int .i64 (-(v : Int)), .int .i64 (d : Int), .bool true] W fun e w' => e = .returned (.tuple #[.int .i64 (-((10 * v + d : Nat) : Int)), .bool true]) ∧ w' = W) := Lib.hid (fun W => by have := HN.out W; rw [if_pos hfit] at this; exact this)
            clear HE
            go_wp2_with fail
            refine (HN.out _).mono ?_
            rintro e wx ⟨rfl, hwx⟩
            obtain rfl := hwx.symm
            go_wp2_with fail
            go_roundw
            case rel => exact ⟨k + 1, by omega, by go_num, by rw [HV.out]; simp, by rw [HV.out]; exact hfit, by trivial⟩
            case measure => simp [intOf]; omega
          · have HN : Hid (∀ W, Calls Tryd.prog 89 #[.int .i64 (-(v : Int)), .int .i64 (d : Int), .bool true] W fun e w' => e = .returned (.tuple #[.int .i64 (-(v : Int)), .bool false]) ∧ w' = W) := Lib.hid (fun W => by have := HN.out W; rw [if_neg hfit] at this; exact this)
            have hk0' : 1 ≤ k := by
              by_cases h : k = 0
              · have := HVK.out h; omega
              · omega
            have HE := Lib.hid (HE.out hk0' (by omega))
            go_wp2_with fail
            refine (HN.out _).mono ?_
            rintro e wx ⟨rfl, hwx⟩
            obtain rfl := hwx.symm
            go_wp2_with fail
            go_ret2
            exact ⟨by rw [HE.out]; show _ = Ending.returned (.tuple #[.int .i64 (-(v : Int)), .int .i64 ((k + 1 : Nat) : Int)]); rw [Int.natCast_add, Int.add_comm]; rfl, by trivial⟩
        · obtain rfl : k = m := by omega
          have HE := Lib.hid (T3'.out k (by omega) (by rw [HM.out]; omega) hv (.inl HM.out.symm))
          generalize val (l.take k) = v at *
          have i3 : (k : Int) ≤ 4096 := by have := HM.out; omega
          go_wp2_with fail
          go_ret2
          exact ⟨by rw [HE.out]; show _ = Ending.returned (.tuple #[.int .i64 (-(v : Int)), .int .i64 ((k + 1 : Nat) : Int)]); rw [Int.natCast_add, Int.add_comm]; rfl, by trivial⟩
end Go.Proofs.YtcfdphfochfeoaaDoor.De
