/- Walks of numbers' texts: Parse of the program and of the reference, Take of the reference. -/
import Derived.Test.YtcfdphfochfeoaaDoorDe3
namespace Go.Proofs.YtcfdphfochfeoaaDoor.De
open Go.RowKit Go.Proofs.YtcfdphfochfeoaaDoor.Li

theorem take_any (l : List UInt8) (hl : l.length ≤ 4096) (w : World) : Calls Tryd.prog 31 #[vS l] w fun e w' => e = .returned (.tuple #[.int .i64 (take l).1, .int .i64 ((take l).2 : Int)]) ∧ w' = w := by
  by_cases h : l.head? = some 45
  · cases l with
    | nil => cases h
    | cons c t =>
      have : c = 45 := by simpa using h
      subst this
      exact take_neg_any t (by simpa using hl) w
  · exact take_pos_any l hl h w
/-- What Parse tells. -/
def pr (s : List UInt8) : Int × Int := match prs s with
  | some n => (n, 0)
  | none => (0, 2)
theorem tk_le (s : List UInt8) : ∀ k, (tk s k).2 ≤ k
  | 0 => Nat.le_refl _
  | k + 1 => by
    unfold tk
    split
    · exact Nat.le_refl _
    · exact Nat.le_trans (tk_le s k) (Nat.le_succ k)
set_option maxHeartbeats 1000000 in
theorem parse_any (l : List UInt8) (hl : l.length ≤ 4096) (w : World) : Calls Tryd.prog 29 #[vS l] w fun e w' => e = .returned (.tuple #[.int .i64 (pr l).1, .int .i64 (pr l).2]) ∧ w' = w := by
  have HT := Lib.hid (take_any l hl w)
  have hpt := prs_take (s := l)
  unfold pr
  have hle := tk_le l (min l.length 20)
  change (take l).2 ≤ _ at hle
  generalize take l = p at *
  obtain ⟨n, k⟩ := p
  simp only at hpt hle HT
  by_cases h0 : k = 0
  · rw [hpt, if_neg (by omega)]
    subst h0
    go_enter Tryd.func29, Tryd.ntmps29
    go_wp2_with fail
    refine (HT.out).mono ?_
    rintro e wx ⟨rfl, hwx⟩
    obtain rfl := hwx.symm
    go_wp2_with fail
    go_ret2
    exact ⟨rfl, rfl⟩
  · have hk0 : ((k : Int) == 0) = false := ibeq_no (by omega)
    by_cases h1 : k = l.length
    · rw [hpt, if_pos ⟨h0, h1⟩]
      have q := nbne_no h1
      have q2 := nbeq h1
      clear hpt hle h0 h1
      go_enter Tryd.func29, Tryd.ntmps29
      go_wp2_with fail
      refine (HT.out).mono ?_
      rintro e wx ⟨rfl, hwx⟩
      obtain rfl := hwx.symm
      go_wp2_with fail
      go_ret2
      exact ⟨rfl, rfl⟩
    · rw [hpt, if_neg (fun h => h1 h.2)]
      have q := nbne h1
      have q2 := nbeq_no h1
      clear hpt hle h0
      go_enter Tryd.func29, Tryd.ntmps29
      go_wp2_with fail
      refine (HT.out).mono ?_
      rintro e wx ⟨rfl, hwx⟩
      obtain rfl := hwx.symm
      go_wp2_with fail
      go_ret2
      exact ⟨rfl, rfl⟩
theorem rdigit_any (c : UInt8) (w : World) : Calls Tryd.prog 86 #[.int .u8 (c.toNat : Int)] w fun e w' => e = .returned (.int .i64 (if isD c then (dv c : Int) else -1)) ∧ w' = w := by
  have hlt := c.toNat_lt
  by_cases h48 : c.toNat < 48
  · rw [notD (by omega)]
    have i1 : (c.toNat : Int) < 48 := by omega
    generalize c.toNat = n at *
    go_enter Tryd.func86, Tryd.ntmps86
    go_wp2_with fail
    go_ret
    exact ⟨rfl, rfl⟩
  · by_cases h57 : 57 < c.toNat
    · rw [notD (by omega)]
      have i1 : ¬ (c.toNat : Int) < 48 := by omega
      have i2 : (57 : Int) < (c.toNat : Int) := by omega
      generalize c.toNat = n at *
      go_enter Tryd.func86, Tryd.ntmps86
      go_wp2_with fail
      go_ret
      exact ⟨rfl, rfl⟩
    · rw [(isD_iff c).2 ⟨by omega, by omega⟩]
      have i1 : ¬ (c.toNat : Int) < 48 := by omega
      have i2 : ¬ (57 : Int) < (c.toNat : Int) := by omega
      have HE := Lib.hid (show (c.toNat : Int) - 48 = (dv c : Int) by unfold dv; omega)
      have i3 : (48 : Int) ≤ (c.toNat : Int) := by omega
      have i4 : (c.toNat : Int) ≤ 57 := by omega
      generalize dv c = d at *
      generalize c.toNat = n at *
      go_enter Tryd.func86, Tryd.ntmps86
      go_wp2_with fail
      go_ret
      exact ⟨by show Ending.returned (.int .i64 ((n : Int) - 48)) = _; rw [HE.out], rfl⟩

/-! the reference's Parse -/
def body (l : List UInt8) : List UInt8 := if l.head? = some 45 then l.drop 1 else l
def sg (l : List UInt8) (n : Nat) : Int := if l.head? = some 45 then -(n : Int) else (n : Int)
theorem prs_val {l : List UInt8} {m : Int} (h : prs l = some m) : m = sg l (val (body l)) := by
  unfold prs at h
  unfold sg body
  split at h
  · rename_i h45
    rw [if_pos h45, if_pos h45]
    split at h
    · injection h with h; exact h.symm
    · cases h
  · rename_i h45
    rw [if_neg h45, if_neg h45]
    split at h
    · injection h with h; exact h.symm
    · cases h
theorem prs_digits {l : List UInt8} {m : Int} (h : prs l = some m) : ∀ x ∈ body l, isD x = true := by
  unfold prs at h
  unfold body
  split at h
  · rename_i h45
    rw [if_pos h45]
    split at h
    · rename_i hc; exact (canon_all hc.1).2
    · cases h
  · rename_i h45
    rw [if_neg h45]
    split at h
    · rename_i hc; exact (canon_all hc.1).2
    · cases h
theorem wrap_in (n : Int) : -9223372036854775808 ≤ wrap64 n ∧ wrap64 n ≤ 9223372036854775807 := by unfold wrap64; omega
/-- At the end: the number's text is compared. -/
theorem pr_end {l : List UInt8} {n : Int} (hn : n = wrap64 (sg l (val (body l)))) : (txt n = l → pr l = (n, 0)) ∧ (txt n ≠ l → pr l = (0, 2)) := by
  have hb := wrap_in (sg l (val (body l)))
  rw [← hn] at hb
  constructor
  · intro h
    have := prs_txt hb
    rw [h] at this
    unfold pr
    rw [this]
  · intro h
    unfold pr
    cases hp : prs l with
    | none => rfl
    | some m =>
      exfalso
      obtain ⟨h1, h2⟩ := prs_some hp
      have h3 := prs_val hp
      have : n = m := by rw [hn, ← h3]; unfold wrap64; omega
      rw [this] at h
      exact h h2.symm
theorem pr_none {l : List UInt8} (h : prs l = none) : pr l = (0, 2) := by unfold pr; rw [h]
theorem prs_bad {l : List UInt8} {i : Nat} (hi : i < (body l).length) (h : isD ((body l).getD i 0) = false) : prs l = none := by
  cases hp : prs l with
  | none => rfl
  | some m =>
    have := prs_digits hp ((body l).getD i 0) (by rw [getD_at hi]; exact List.getElem_mem hi)
    rw [this] at h
    cases h
set_option maxRecDepth 100000 in
set_option maxHeartbeats 1000000 in
/-- Without a sign. -/
theorem rparse_pos (l : List UInt8) (hl : l.length ≤ 20) (h0 : 1 ≤ l.length) (h45 : l.head? ≠ some 45) (w : World) : Calls Tryd.prog 30 #[vS l] w fun e w' => e = .returned (.tuple #[.int .i64 (pr l).1, .int .i64 (pr l).2]) ∧ w' = w := by
  have hsB := size_B l
  have hbo : body l = l := by unfold body; rw [if_neg h45]
  have hsg : ∀ n, sg l n = (n : Int) := fun n => by unfold sg; rw [if_neg h45]
  have hhd : l.head? = some (l.getD 0 0) := by cases l with
    | nil => simp at h0
    | cons c t => rfl
  have hix0 : ∀ W, (Instr.index 9 (vS l) (.int .i64 0)).run Tryd.prog W = .ok (.int .u8 ((l.getD 0 0).toNat : Int)) W := fun W => ix_str (B l) 0 (by rw [hsB]; omega) W
  have hne : (((l.getD 0 0).toNat : Int) == 45) = false := ibeq_no (fun e => h45 (by rw [hhd]; exact congrArg some (UInt8.toNat_inj.1 (by have : (45 : UInt8).toNat = 45 := rfl; omega))))
  have HEND := Lib.hid (fun n => pr_end (l := l) (n := n))
  rw [hbo] at HEND
  have q0 : ((l.length : Int) == 0) = false := ibeq_no (by omega)
  have q1 : ¬ (20 : Int) < (l.length : Int) := by omega
  clear hhd
  go_enter Tryd.func30, Tryd.ntmps30
  go_wp2_with fail
  go_loopw [4, 5] (fun n i wr => ∃ k : Nat, k ≤ l.length ∧ i = .int .i64 (k : Int) ∧ n = .int .i64 (wrap64 (val (l.take k) : Int)) ∧ wr = w) (fun _ i _ => l.length - (intOf i).toNat)
  case atStart => exact ⟨0, Nat.zero_le _, rfl, congrArg (Value.int .i64) (show (0 : Int) = wrap64 (val (l.take 0) : Int) by rw [List.take_zero, val_nil]; unfold wrap64; omega), rfl⟩
  case round =>
    obtain ⟨k, hk, rfl, rfl, hwr⟩ := hrel
    subst hwr
    by_cases hlt : k < l.length
    · have hix : ∀ W, (Instr.index 9 (vS l) (.int .i64 (k : Int))).run Tryd.prog W = .ok (.int .u8 ((l.getD k 0).toNat : Int)) W := fun W => ix_str (B l) k (by rw [hsB]; exact hlt) W
      have HV := Lib.hid (val_succ hlt)
      have HR := rdigit_any (l.getD k 0)
      have HBAD := Lib.hid (fun h => pr_none (prs_bad (l := l) (i := k) (by rw [hbo]; exact hlt) (by rw [hbo]; exact h)))
      have hd9 := Lib.hid (fun h => dv_lt (c := l.getD k 0) h)
      have i1 : (k : Int) < (l.length : Int) := by omega
      have hWV : ∀ d : Nat, wrap64 (wrap64 (wrap64 (val (l.take k) : Int) * 10) + (d : Int)) = wrap64 ((10 * val (l.take k) + d : Nat) : Int) := fun d => by unfold wrap64; omega
      have hWV := Lib.hid hWV
      generalize val (l.take k) = V at *
      cases hd : isD (l.getD k 0) with
      | false =>
        have HE := Lib.hid (HBAD.out hd)
        rw [hd] at HR
        simp only [Bool.false_eq_true, if_false] at HR
        have HR := Lib.hid HR
        clear HV HBAD hd9 hd
        by_cases hk0 : k = 0
        · subst hk0
          generalize l.getD 0 0 = c at *
          go_wp2_with fail
          refine (HR.out _).mono ?_
          rintro e wx ⟨rfl, hwx⟩
          obtain rfl := hwx.symm
          go_wp2_with fail
          go_ret2
          exact ⟨by rw [HE.out]; rfl, by trivial⟩
        · have qk : ((k : Int) == 0) = false := ibeq_no (by omega)
          generalize l.getD k 0 = c at *
          generalize l.getD 0 0 = c0 at *
          go_wp2_with fail
          refine (HR.out _).mono ?_
          rintro e wx ⟨rfl, hwx⟩
          obtain rfl := hwx.symm
          go_wp2_with fail
          go_ret2
          exact ⟨by rw [HE.out]; rfl, by trivial⟩
      | true =>
        have hd9 := hd9.out hd
        rw [hd] at HR
        simp only [if_true] at HR
        have HR := Lib.hid HR
        have i2 : ¬ ((dv (l.getD k 0) : Nat) : Int) < 0 := by omega
        clear HBAD hd
        generalize hdd : dv (l.getD k 0) = d at *
        by_cases hk0 : k = 0
        · subst hk0
          clear hdd
          generalize l.getD 0 0 = c at *
          go_wp2_with fail
          refine (HR.out _).mono ?_
          rintro e wx ⟨rfl, hwx⟩
          obtain rfl := hwx.symm
          go_wp2_with fail
          refine (HR.out _).mono ?_
          rintro e wx ⟨rfl, hwx⟩
          obtain rfl := hwx.symm
          go_wp2_with fail
          go_roundw
          case rel => exact ⟨1, by omega, rfl, by rw [HV.out, ← hWV.out], by trivial⟩
          case measure => simp [intOf]; omega
        · have qk : ((k : Int) == 0) = false := ibeq_no (by omega)
          clear hdd
          generalize l.getD k 0 = c at *
          generalize l.getD 0 0 = c0 at *
          go_wp2_with fail
          refine (HR.out _).mono ?_
          rintro e wx ⟨rfl, hwx⟩
          obtain rfl := hwx.symm
          go_wp2_with fail
          refine (HR.out _).mono ?_
          rintro e wx ⟨rfl, hwx⟩
          obtain rfl := hwx.symm
          go_wp2_with fail
          go_roundw
          case rel => exact ⟨k + 1, by omega, by go_num, by rw [HV.out, ← hWV.out], by trivial⟩
          case measure => simp [intOf]; omega
    · obtain rfl : k = l.length := by omega
      rw [List.take_length]
      have hb := wrap_in (val l : Int)
      have HX := HEND.out (wrap64 (val l : Int)) (by rw [hsg])
      generalize wrap64 (val l : Int) = n at *
      have HT := Lib.hid (rtxt_any _ n (Nat.le_refl _) hb)
      by_cases he : txt n = l
      · have HE := Lib.hid (HX.1 he)
        rw [he] at HT
        clear HX he
        go_wp2_with fail
        refine (HT.out _).mono ?_
        rintro e wx ⟨rfl, hwx⟩
        obtain rfl := hwx.symm
        go_wp2_with fail
        go_ret2
        exact ⟨by rw [HE.out]; rfl, by trivial⟩
      · have HE := Lib.hid (HX.2 he)
        have qe : (txt n == l) = false := beq_eq_false_iff_ne.2 he
        clear HX he
        generalize txt n = t at *
        go_wp2_with fail
        refine (HT.out _).mono ?_
        rintro e wx ⟨rfl, hwx⟩
        obtain rfl := hwx.symm
        go_wp2_with fail
        go_ret2
        exact ⟨by rw [HE.out]; rfl, by trivial⟩

set_option maxRecDepth 100000 in
set_option maxHeartbeats 1000000 in
/-- With a sign. -/
theorem rparse_neg (t : List UInt8) (hl : t.length + 1 ≤ 20) (w : World) : Calls Tryd.prog 30 #[vS (45 :: t)] w fun e w' => e = .returned (.tuple #[.int .i64 (pr (45 :: t)).1, .int .i64 (pr (45 :: t)).2]) ∧ w' = w := by
  have hsB := size_B (45 :: t)
  rw [List.length_cons] at hsB
  have hbo : body (45 :: t) = t := rfl
  have hsg : ∀ n, sg (45 :: t) n = -(n : Int) := fun n => rfl
  have hix0 : ∀ W, (Instr.index 9 (vS (45 :: t)) (.int .i64 0)).run Tryd.prog W = .ok (.int .u8 45) W := fun W => ix_str (B (45 :: t)) 0 (by rw [hsB]; omega) W
  have HEND := Lib.hid (fun n => pr_end (l := 45 :: t) (n := n))
  rw [hbo] at HEND
  have q1 : ¬ (20 : Int) < (t.length : Int) + 1 := by omega
  go_enter Tryd.func30, Tryd.ntmps30
  go_wp2_with fail
  go_loopw [4, 5] (fun n i wr => ∃ k : Nat, k ≤ t.length + 1 ∧ i = .int .i64 (k : Int) ∧ n = .int .i64 (wrap64 (-(val (t.take (k - 1)) : Int))) ∧ wr = w) (fun _ i _ => t.length + 1 - (intOf i).toNat)
  case atStart => exact ⟨0, Nat.zero_le _, rfl, congrArg (Value.int .i64) (show (0 : Int) = wrap64 (-(val (t.take 0) : Int)) by rw [List.take_zero, val_nil]; unfold wrap64; omega), rfl⟩
  case round =>
    obtain ⟨k, hk, rfl, rfl, hwr⟩ := hrel
    subst hwr
    by_cases hk0 : k = 0
    · subst hk0
      go_wp2_with fail
      go_roundw
      case rel => exact ⟨1, by omega, rfl, rfl, by trivial⟩
      case measure => simp [intOf]
    · obtain ⟨j, rfl⟩ : ∃ j, k = j + 1 := ⟨k - 1, by omega⟩
      rw [Nat.add_sub_cancel] at *
      by_cases hlt : j < t.length
      · have hix : ∀ W, (Instr.index 9 (vS (45 :: t)) (.int .i64 ((j : Int) + 1))).run Tryd.prog W = .ok (.int .u8 ((t.getD j 0).toNat : Int)) W := fun W => ix_two (45 :: t) j 1 (by rw [List.length_cons]; omega) W
        have HV := Lib.hid (val_succ hlt)
        have HR := rdigit_any (t.getD j 0)
        have HBAD := Lib.hid (fun h => pr_none (prs_bad (l := 45 :: t) (i := j) (by rw [hbo]; exact hlt) (by rw [hbo]; exact h)))
        have hd9 := Lib.hid (fun h => dv_lt (c := t.getD j 0) h)
        have i1 : (j : Int) + 1 < (t.length : Int) + 1 := by omega
        have qk : ((j : Int) + 1 == 0) = false := ibeq_no (by omega)
        have hWV : ∀ d : Nat, wrap64 (wrap64 (wrap64 (-(val (t.take j) : Int)) * 10) - (d : Int)) = wrap64 (-((10 * val (t.take j) + d : Nat) : Int)) := fun d => by unfold wrap64; omega
        have hWV := Lib.hid hWV
        generalize val (t.take j) = V at *
        cases hd : isD (t.getD j 0) with
        | false =>
          have HE := Lib.hid (HBAD.out hd)
          rw [hd] at HR
          simp only [Bool.false_eq_true, if_false] at HR
          have HR := Lib.hid HR
          clear HV HBAD hd9 hd
          generalize t.getD j 0 = c at *
          go_wp2_with fail
          refine (HR.out _).mono ?_
          rintro e wx ⟨rfl, hwx⟩
          obtain rfl := hwx.symm
          go_wp2_with fail
          go_ret2
          exact ⟨by rw [HE.out]; rfl, by trivial⟩
        | true =>
          have hd9 := hd9.out hd
          rw [hd] at HR
          simp only [if_true] at HR
          have HR := Lib.hid HR
          have i2 : ¬ ((dv (t.getD j 0) : Nat) : Int) < 0 := by omega
          clear HBAD hd
          generalize hdd : dv (t.getD j 0) = d at *
          clear hdd
          generalize t.getD j 0 = c at *
          go_wp2_with fail
          refine (HR.out _).mono ?_
          rintro e wx ⟨rfl, hwx⟩
          obtain rfl := hwx.symm
          go_wp2_with fail
          refine (HR.out _).mono ?_
          rintro e wx ⟨rfl, hwx⟩
          obtain rfl := hwx.symm
          go_wp2_with fail
          go_roundw
          case rel => exact ⟨j + 2, by omega, by go_num, by show _ = Value.int .i64 (wrap64 (-(val (t.take (j + 1)) : Int))); rw [HV.out, ← hWV.out], by trivial⟩
          case measure => simp [intOf]; omega
      · obtain rfl : j = t.length := by omega
        rw [List.take_length]
        have hb := wrap_in (-(val t : Int))
        have HX := HEND.out (wrap64 (-(val t : Int))) (by rw [hsg])
        generalize wrap64 (-(val t : Int)) = n at *
        have HT := Lib.hid (rtxt_any _ n (Nat.le_refl _) hb)
        by_cases he : txt n = 45 :: t
        · have HE := Lib.hid (HX.1 he)
          rw [he] at HT
          clear HX he
          go_wp2_with fail
          refine (HT.out _).mono ?_
          rintro e wx ⟨rfl, hwx⟩
          obtain rfl := hwx.symm
          go_wp2_with fail
          go_ret2
          exact ⟨by rw [HE.out]; rfl, by trivial⟩
        · have HE := Lib.hid (HX.2 he)
          have qe : (txt n == 45 :: t) = false := beq_eq_false_iff_ne.2 he
          clear HX he
          generalize txt n = tt at *
          go_wp2_with fail
          refine (HT.out _).mono ?_
          rintro e wx ⟨rfl, hwx⟩
          obtain rfl := hwx.symm
          go_wp2_with fail
          go_ret2
          exact ⟨by rw [HE.out]; rfl, by trivial⟩

theorem rparse_any (l : List UInt8) (hl : l.length ≤ 4096) (w : World) : Calls Tryd.prog 30 #[vS l] w fun e w' => e = .returned (.tuple #[.int .i64 (pr l).1, .int .i64 (pr l).2]) ∧ w' = w := by
  by_cases h0 : l.length = 0
  · have : l = [] := List.eq_nil_of_length_eq_zero h0
    subst this
    rw [pr_none prs_nil]
    go_enter Tryd.func30, Tryd.ntmps30
    go_wp2_with fail
    go_ret2
    exact ⟨rfl, rfl⟩
  · by_cases h20 : l.length ≤ 20
    · by_cases h : l.head? = some 45
      · cases l with
        | nil => cases h
        | cons c t =>
          have : c = 45 := by simpa using h
          subst this
          exact rparse_neg t (by simpa using h20) w
      · exact rparse_pos l h20 (by omega) h w
    · have hn : prs l = none := by
        cases hp : prs l with
        | none => rfl
        | some m => exact absurd (prs_len hp) h20
      rw [pr_none hn]
      have hsB := size_B l
      have q0 : ((l.length : Int) == 0) = false := ibeq_no (by omega)
      have q1 : (20 : Int) < (l.length : Int) := by omega
      go_enter Tryd.func30, Tryd.ntmps30
      go_wp2_with fail
      go_ret2
      exact ⟨rfl, rfl⟩
theorem pr_ok (l : List UInt8) : (∃ m, prs l = some m ∧ pr l = (m, 0)) ∨ (prs l = none ∧ pr l = (0, 2)) := by
  unfold pr
  cases prs l with
  | none => exact .inr ⟨rfl, rfl⟩
  | some m => exact .inl ⟨m, rfl, rfl⟩
set_option maxRecDepth 100000 in
set_option maxHeartbeats 1000000 in
theorem rtake_any (l : List UInt8) (hl : l.length ≤ 4096) (w : World) : Calls Tryd.prog 32 #[vS l] w fun e w' => e = .returned (.tuple #[.int .i64 (take l).1, .int .i64 ((take l).2 : Int)]) ∧ w' = w := by
  have hsB := size_B l
  obtain ⟨M, hM⟩ : ∃ M, min l.length 20 = M := ⟨_, rfl⟩
  have hM1 : M ≤ l.length := by omega
  have hM2 : M ≤ 20 := by omega
  have hM3 : M = l.length ∨ M = 20 := by omega
  rw [show take l = tk l M by unfold take; rw [hM]]
  clear hM
  go_enter Tryd.func32, Tryd.ntmps32
  go_wp2_with fail
  go_loopw [4, 5, 6] (fun n mm kk wr => ∃ k : Nat, k ≤ M ∧ kk = .int .i64 ((k : Int) + 1) ∧ n = .int .i64 (tk l k).1 ∧ mm = .int .i64 ((tk l k).2 : Int) ∧ wr = w) (fun _ _ kk _ => M + 1 - (intOf kk).toNat)
  case atStart => exact ⟨0, Nat.zero_le _, rfl, rfl, rfl, rfl⟩
  case round =>
    obtain ⟨k, hk, rfl, rfl, rfl, hwr⟩ := hrel
    subst hwr
    by_cases hlt : k < M
    · have i1 : (k : Int) + 1 ≤ (l.length : Int) := by omega
      have i2 : (k : Int) + 1 ≤ 20 := by omega
      have HE := Lib.hid (show (B l).extract 0 (k + 1) = B (l.take (k + 1)) by rw [ext_B]; rfl)
      have HP := Lib.hid (rparse_any (l.take (k + 1)) (by rw [List.length_take]; omega))
      have hS := Lib.hid (show tk l (k + 1) = match prs (l.take (k + 1)) with | some m => (m, k + 1) | none => tk l k from rfl)
      rcases pr_ok (l.take (k + 1)) with ⟨m, h1, h2⟩ | ⟨h1, h2⟩
      · have hS2 := Lib.hid (show tk l (k + 1) = (m, k + 1) by rw [hS.out, h1])
        rw [h2] at HP
        clear hS h1 h2
        generalize l.take (k + 1) = x at *
        generalize tk l k = y at *
        go_wp2_with fail
        rw [HE.out]
        refine (HP.out _).mono ?_
        rintro e wx ⟨rfl, hwx⟩
        obtain rfl := hwx.symm
        go_wp2_with fail
        go_roundw
        case rel => exact ⟨k + 1, by omega, by go_num, by rw [hS2.out], by rw [hS2.out]; go_num, by trivial⟩
        case measure => simp [intOf]; omega
      · have hS2 := Lib.hid (show tk l (k + 1) = tk l k by rw [hS.out, h1])
        rw [h2] at HP
        clear hS h1 h2
        generalize l.take (k + 1) = x at *
        go_wp2_with fail
        rw [HE.out]
        refine (HP.out _).mono ?_
        rintro e wx ⟨rfl, hwx⟩
        obtain rfl := hwx.symm
        go_wp2_with fail
        go_roundw
        case rel => exact ⟨k + 1, by omega, by go_num, by rw [hS2.out], by rw [hS2.out], by trivial⟩
        case measure => simp [intOf]; omega
    · obtain rfl : k = M := by omega
      rcases hM3 with h | h
      · subst h
        have i1 : ¬ (l.length : Int) + 1 ≤ (l.length : Int) := by omega
        go_wp2_with fail
        go_ret2
        exact ⟨rfl, by trivial⟩
      · subst h
        by_cases h21 : (20 : Int) + 1 ≤ (l.length : Int)
        · go_wp2_with fail
          go_ret2
          exact ⟨rfl, by trivial⟩
        · go_wp2_with fail
          go_ret2
          exact ⟨rfl, by trivial⟩
end Go.Proofs.YtcfdphfochfeoaaDoor.De
