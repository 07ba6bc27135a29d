/- Walks of numbers' texts: the reference's Text. -/
import Derived.Test.YtcfdphfochfeoaaDoorLi2
import Derived.Test.YtcfdphfochfeoaaDoorDeP
namespace Go.Proofs.YtcfdphfochfeoaaDoor.De
open Go.RowKit Go.Proofs.YtcfdphfochfeoaaDoor.Li

theorem txt_nat (m : Nat) : txt (m : Int) = digs m := by unfold txt; rw [if_neg (by omega)]; rfl
theorem txt_neg {m : Nat} (h : 1 ≤ m) : txt (-(m : Int)) = 45 :: digs m := by unfold txt; rw [if_pos (by omega), Int.natAbs_neg]; rfl
theorem ten_ext : ∀ m : Nat, m < 10 → (⟨#[48, 49, 50, 51, 52, 53, 54, 55, 56, 57]⟩ : ByteArray).extract m (m + 1) = B [dg m] := by
  intro m h
  apply L_inj
  rw [ext_L, L_B]
  revert m
  decide
/-- A number of one digit. -/
theorem rtxt_one (m : Nat) (h : m < 10) (w : World) : Calls Tryd.prog 34 #[.int .i64 (m : Int)] w fun e w' => e = .returned (vS (txt (m : Int))) ∧ w' = w := by
  rw [txt_nat, digs_lt h]
  have HE := Lib.hid (ten_ext m h)
  have i1 : (m : Int) < 10 := by omega
  have i2 : (0 : Int) ≤ (m : Int) := by omega
  go_enter Tryd.func34, Tryd.ntmps34
  go_wp2_with fail
  go_ret
  exact ⟨by show _ = Ending.returned (.string (B [dg m])); rw [← HE.out]; rfl, rfl⟩
theorem rtxt_neg (m : Nat) (h : m < 10) (h1 : 1 ≤ m) (w : World) : Calls Tryd.prog 34 #[.int .i64 (-(m : Int))] w fun e w' => e = .returned (vS (txt (-(m : Int)))) ∧ w' = w := by
  have HR := Lib.hid (rtxt_one m h w)
  have i1 : -(10 : Int) < -(m : Int) := by omega
  have i2 : -(m : Int) < 0 := by omega
  have i3 : ¬ (0 : Int) ≤ -(m : Int) := by omega
  have HT := Lib.hid (show (45 :: txt (m : Int)) = txt (-(m : Int)) by rw [txt_neg h1, txt_nat])
  have hl := txt_len (n := (m : Int)) (by omega)
  generalize txt (m : Int) = t at *
  generalize txt (-(m : Int)) = t2 at *
  have hn1 : ¬ 9223372036854775807 < 1 + t.length := by omega
  have hn2 : ¬ 9223372036854775807 < t.length + 1 := by omega
  go_enter Tryd.func34, Tryd.ntmps34
  go_wp2_with fail
  refine (HR.out).mono ?_
  rintro e wx ⟨rfl, hwx⟩
  obtain rfl := hwx.symm
  go_wp2_with fail
  go_ret
  exact ⟨by rw [← HT.out]; show Ending.returned (.string (B [45] ++ B t)) = _; rw [app_B]; rfl, rfl⟩
theorem txt_split (n : Int) (h : 10 ≤ n.natAbs) : txt n = txt (n.tdiv 10) ++ txt ((n.tmod 10).natAbs : Int) := by
  have h1 : (n.tmod 10).natAbs = n.natAbs % 10 := by rw [Int.natAbs_tmod]; rfl
  have h2 : (n.tdiv 10).natAbs = n.natAbs / 10 := by rw [Int.natAbs_tdiv]; rfl
  have hs : n < 0 ↔ n.tdiv 10 < 0 := by
    rcases Int.natAbs_eq n with e | e
    · have h3 : n.tdiv 10 = ((n.natAbs / 10 : Nat) : Int) := by rw [e]; simp [Int.ofNat_tdiv]
      omega
    · have h3 : n.tdiv 10 = -((n.natAbs / 10 : Nat) : Int) := by
        conv => lhs; rw [e]
        rw [Int.neg_tdiv]; simp [Int.ofNat_tdiv]
      omega
  rw [txt_nat, h1, digs_lt (n := n.natAbs % 10) (by omega)]
  unfold txt
  rw [h2]
  by_cases hn : n < 0
  · rw [if_pos hn, if_pos (hs.1 hn), digs_ge h]; rfl
  · rw [if_neg hn, if_neg (fun e => hn (hs.2 e)), digs_ge h]
set_option maxHeartbeats 1000000 in
theorem rtxt_any : ∀ (k : Nat) (n : Int), n.natAbs ≤ k → -9223372036854775808 ≤ n ∧ n ≤ 9223372036854775807 → ∀ w, Calls Tryd.prog 34 #[.int .i64 n] w fun e w' => e = .returned (vS (txt n)) ∧ w' = w
  | k, n, hk, hb, w => by
    by_cases hs : n.natAbs < 10
    · by_cases h0 : 0 ≤ n
      · obtain ⟨m, rfl⟩ := Int.eq_ofNat_of_zero_le h0
        exact rtxt_one m (by omega) w
      · obtain ⟨m, hm⟩ := Int.eq_ofNat_of_zero_le (show 0 ≤ -n by omega)
        obtain rfl : n = -(m : Int) := by omega
        exact rtxt_neg m (by omega) (by omega) w
    · match k, hk with
      | 0, hk => omega
      | k + 1, hk =>
        have h1 : (n.tmod 10).natAbs = n.natAbs % 10 := by rw [Int.natAbs_tmod]; rfl
        have h2 : (n.tdiv 10).natAbs = n.natAbs / 10 := by rw [Int.natAbs_tdiv]; rfl
        have hsp := txt_split n (by omega)
        have HQ := rtxt_any k (n.tdiv 10) (by omega) (by omega) w
        have HR := rtxt_one (n.tmod 10).natAbs (by omega) w
        have l1 := txt_len (n := n.tdiv 10) (by omega)
        have l2 := txt_len (n := ((n.tmod 10).natAbs : Int)) (by omega)
        have hw := IntWalk.i64_quo' n 10 ⟨hb.1, hb.2, by omega⟩
        have HS := Lib.hid hsp
        have HQ := Lib.hid HQ
        have HR := Lib.hid HR
        clear hsp h2
        generalize hq : n.tdiv 10 = q at *
        have hsg := Int.tmod_nonneg (a := n) 10
        have hsg2 : n ≤ 0 → n.tmod 10 ≤ 0 := by
          intro h
          have := Int.tmod_nonneg (a := -n) 10 (by omega)
          rw [Int.neg_tmod] at this
          omega
        generalize hr : n.tmod 10 = r at *
        generalize txt q = t1 at *
        generalize ht2 : txt (r.natAbs : Int) = t2 at *
        clear ht2
        have hn1 : ¬ 9223372036854775807 < t1.length + t2.length := by omega
        by_cases h0 : 0 ≤ n
        · have hr0 : ¬ r < 0 := by have := hsg h0; omega
          have i1 : ¬ n < 10 := by omega
          have i2 : ¬ n < 0 := by omega
          have e1 : ((r.natAbs : Nat) : Int) = r := by omega
          rw [e1] at HR
          go_enter Tryd.func34, Tryd.ntmps34
          go_wp2_with fail
          refine (HQ.out).mono ?_
          rintro e wx ⟨rfl, hwx⟩
          obtain rfl := hwx.symm
          go_wp2_with fail
          refine (HR.out).mono ?_
          rintro e wx ⟨rfl, hwx⟩
          obtain rfl := hwx.symm
          go_wp2_with fail
          go_ret
          exact ⟨by rw [HS.out]; show _ = Ending.returned (.string (B (t1 ++ t2))); rw [← app_B]; rfl, rfl⟩
        · have hr0 := hsg2 (by omega)
          have i1 : n < 0 := by omega
          have i2 : ¬ -10 < n := by omega
          by_cases hr1 : r < 0
          · have e1 : ((r.natAbs : Nat) : Int) = -r := by omega
            rw [e1] at HR
            go_enter Tryd.func34, Tryd.ntmps34
            go_wp2_with fail
            refine (HQ.out).mono ?_
            rintro e wx ⟨rfl, hwx⟩
            obtain rfl := hwx.symm
            go_wp2_with fail
            refine (HR.out).mono ?_
            rintro e wx ⟨rfl, hwx⟩
            obtain rfl := hwx.symm
            go_wp2_with fail
            go_ret
            exact ⟨by rw [HS.out]; show _ = Ending.returned (.string (B (t1 ++ t2))); rw [← app_B]; rfl, rfl⟩
          · have e1 : ((r.natAbs : Nat) : Int) = r := by omega
            rw [e1] at HR
            go_enter Tryd.func34, Tryd.ntmps34
            go_wp2_with fail
            refine (HQ.out).mono ?_
            rintro e wx ⟨rfl, hwx⟩
            obtain rfl := hwx.symm
            go_wp2_with fail
            refine (HR.out).mono ?_
            rintro e wx ⟨rfl, hwx⟩
            obtain rfl := hwx.symm
            go_wp2_with fail
            go_ret
            exact ⟨by rw [HS.out]; show _ = Ending.returned (.string (B (t1 ++ t2))); rw [← app_B]; rfl, rfl⟩
end Go.Proofs.YtcfdphfochfeoaaDoor.De
