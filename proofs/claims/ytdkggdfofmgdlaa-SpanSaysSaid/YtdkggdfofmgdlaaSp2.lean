/- Walks of layer 22: Each, Some, of the program and of the reference. -/
import Derived.Test.YtdkggdfofmgdlaaSp1
namespace Go.Proofs.Ytdkggdfofmgdlaa.Sp
open Go.RowKit
def eachD (kind t k s : Int) : Int := if isK kind = true ∧ mayD t k s = true then k * (onceD kind + (t - 1) * (s + stepD kind)) else 0
def someD (kind t k s par : Int) : Int := if kind = 1 then (if mayD t k s = true ∧ 1 ≤ par ∧ par ≤ 1024 then k * (s + par + 4) else 0) else eachD kind t k s
theorem bnd {t k s o e : Int} (h : mayD t k s = true) (ho : 3 ≤ o ∧ o ≤ 6) (he : 4 ≤ e ∧ e ≤ 8) : (0 ≤ (t - 1) * (s + e) ∧ (t - 1) * (s + e) ≤ 124248) ∧ 0 ≤ k * (o + (t - 1) * (s + e)) ∧ k * (o + (t - 1) * (s + e)) ≤ 500000000 := by
  obtain ⟨h1, h2, h3, h4, h5, h6⟩ := (may_iff t k s).1 h
  have a : 0 ≤ (t - 1) * (s + e) := Int.mul_nonneg (by omega) (by omega)
  have b : (t - 1) * (s + e) ≤ 31 * 4008 := Int.mul_le_mul (by omega) (by omega) (by omega) (by omega)
  generalize (t - 1) * (s + e) = P at *
  have c : 0 ≤ k * (o + P) := Int.mul_nonneg (by omega) (by omega)
  have d : k * (o + P) ≤ 4000 * 124254 := Int.mul_le_mul (by omega) (by omega) (by omega) (by omega)
  exact ⟨⟨a, by omega⟩, c, by omega⟩
theorem bnd2 {t k s p : Int} (h : mayD t k s = true) (hp : 1 ≤ p ∧ p ≤ 1024) : 0 ≤ k * (s + p + 4) ∧ k * (s + p + 4) ≤ 500000000 := by
  obtain ⟨h1, h2, h3, h4, h5, h6⟩ := (may_iff t k s).1 h
  have c : 0 ≤ k * (s + p + 4) := Int.mul_nonneg (by omega) (by omega)
  have d : k * (s + p + 4) ≤ 4000 * 5028 := Int.mul_le_mul (by omega) (by omega) (by omega) (by omega)
  exact ⟨c, by omega⟩
theorem once_in (kind : Int) : 3 ≤ onceD kind ∧ onceD kind ≤ 6 := by unfold onceD; split <;> (try split) <;> omega
theorem step_in (kind : Int) : 4 ≤ stepD kind ∧ stepD kind ≤ 8 := by unfold stepD; split <;> omega
theorem each_any (kind t k s : Int) (w : World) : Calls Try.prog 5 #[.int .i64 kind, .int .i64 t, .int .i64 k, .int .i64 s] w fun e w' => e = .returned (.int .i64 (eachD kind t k s)) ∧ w' = w := by
  have hP := parts_any kind w
  have hM := may_any t k s w
  unfold partsD at hP
  cases hk : isK kind with
  | false =>
    rw [hk] at hP
    have HN := Lib.hid (show eachD kind t k s = 0 by unfold eachD; rw [hk, if_neg (by simp)])
    have HP := Lib.hid hP
    clear hP hM hk
    go_enter Try.func5, Try.ntmps5
    go_wp2_with fail
    refine (HP.out).mono ?_
    rintro e wx ⟨rfl, hwx⟩
    obtain rfl := hwx.symm
    go_wp2_with fail
    go_ret
    exact ⟨by rw [HN.out]; rfl, rfl⟩
  | true =>
    rw [hk] at hP
    have HP := Lib.hid hP
    cases hm : mayD t k s with
    | false =>
      have HN := Lib.hid (show eachD kind t k s = 0 by unfold eachD; rw [hm, if_neg (by simp)])
      rw [hm] at hM
      have HM := Lib.hid hM
      clear hP hM hk hm
      go_enter Try.func5, Try.ntmps5
      go_wp2_with fail
      refine (HP.out).mono ?_
      rintro e wx ⟨rfl, hwx⟩
      obtain rfl := hwx.symm
      go_wp2_with fail
      refine (HM.out).mono ?_
      rintro e wx ⟨rfl, hwx⟩
      obtain rfl := hwx.symm
      go_wp2_with fail
      go_ret
      exact ⟨by rw [HN.out]; rfl, rfl⟩
    | true =>
      have HN := Lib.hid (show eachD kind t k s = k * (onceD kind + (t - 1) * (s + stepD kind)) by unfold eachD; rw [if_pos ⟨hk, hm⟩])
      have ho := once_in kind
      have he := step_in kind
      obtain ⟨⟨b1, b2⟩, b3, b4⟩ := bnd hm ho he
      obtain ⟨h1, h2, h3, h4, h5, h6⟩ := (may_iff t k s).1 hm
      rw [hm] at hM
      have HM := Lib.hid hM
      rw [HN.out]
      generalize onceD kind = o at *
      generalize stepD kind = e at *
      clear hP hM hk hm HN
      have w1 : IntKind.i64.wrap (t - 1) = t - 1 := IntWalk.i64_in _ (by omega)
      have w2 : IntKind.i64.wrap (s + e) = s + e := IntWalk.i64_in _ (by omega)
      have w3 : IntKind.i64.wrap ((t - 1) * (s + e)) = (t - 1) * (s + e) := IntWalk.i64_in _ (by omega)
      have w4 : IntKind.i64.wrap (o + (t - 1) * (s + e)) = o + (t - 1) * (s + e) := IntWalk.i64_in _ (by omega)
      have w5 : IntKind.i64.wrap (k * (o + (t - 1) * (s + e))) = k * (o + (t - 1) * (s + e)) := IntWalk.i64_in _ (by omega)
      go_enter Try.func5, Try.ntmps5
      go_wp2_with fail
      refine (HP.out).mono ?_
      rintro e wx ⟨rfl, hwx⟩
      obtain rfl := hwx.symm
      go_wp2_with fail
      refine (HM.out).mono ?_
      rintro e wx ⟨rfl, hwx⟩
      obtain rfl := hwx.symm
      go_wp2_with fail
      go_ret
      exact ⟨rfl, rfl⟩
theorem some_one {kind t k s par : Int} (h : kind = 1) : someD kind t k s par = if mayD t k s = true ∧ 1 ≤ par ∧ par ≤ 1024 then k * (s + par + 4) else 0 := by unfold someD; rw [if_pos h]
theorem some_any (kind t k s par : Int) (w : World) : Calls Try.prog 7 #[.int .i64 kind, .int .i64 t, .int .i64 k, .int .i64 s, .int .i64 par] w fun e w' => e = .returned (.int .i64 (someD kind t k s par)) ∧ w' = w := by
  have hM := may_any t k s w
  have hE := each_any kind t k s w
  by_cases k1 : kind = 1
  · cases hm : mayD t k s with
    | false =>
      have HN := Lib.hid (show someD kind t k s par = 0 by rw [some_one k1, if_neg (by simp [hm]; try omega)])
      rw [hm] at hM
      have HM := Lib.hid hM
      have q := ibne_no k1
      clear hM hm hE
      go_enter Try.func7, Try.ntmps7
      go_wp2_with fail
      refine (HM.out).mono ?_
      rintro e wx ⟨rfl, hwx⟩
      obtain rfl := hwx.symm
      go_wp2_with fail
      go_ret
      exact ⟨by rw [HN.out]; rfl, rfl⟩
    | true =>
      by_cases p1 : par < 1
      · have HN := Lib.hid (show someD kind t k s par = 0 by rw [some_one k1, if_neg (by simp [hm]; try omega)])
        rw [hm] at hM
        have HM := Lib.hid hM
        have q := ibne_no k1
        clear hM hm hE
        go_enter Try.func7, Try.ntmps7
        go_wp2_with fail
        refine (HM.out).mono ?_
        rintro e wx ⟨rfl, hwx⟩
        obtain rfl := hwx.symm
        go_wp2_with fail
        go_ret
        exact ⟨by rw [HN.out]; rfl, rfl⟩
      · by_cases p2 : 1024 < par
        · have HN := Lib.hid (show someD kind t k s par = 0 by rw [some_one k1, if_neg (by simp [hm]; try omega)])
          rw [hm] at hM
          have HM := Lib.hid hM
          have q := ibne_no k1
          clear hM hm hE
          go_enter Try.func7, Try.ntmps7
          go_wp2_with fail
          refine (HM.out).mono ?_
          rintro e wx ⟨rfl, hwx⟩
          obtain rfl := hwx.symm
          go_wp2_with fail
          go_ret
          exact ⟨by rw [HN.out]; rfl, rfl⟩
        · have HN := Lib.hid (show someD kind t k s par = k * (s + par + 4) by rw [some_one k1, if_pos ⟨hm, by omega, by omega⟩])
          obtain ⟨b3, b4⟩ := bnd2 (p := par) hm (by omega)
          obtain ⟨h1, h2, h3, h4, h5, h6⟩ := (may_iff t k s).1 hm
          rw [hm] at hM
          have HM := Lib.hid hM
          have q := ibne_no k1
          clear hM hm hE
          have w1 : IntKind.i64.wrap (s + par) = s + par := IntWalk.i64_in _ (by omega)
          have w2 : IntKind.i64.wrap (s + par + 4) = s + par + 4 := IntWalk.i64_in _ (by omega)
          have w5 : IntKind.i64.wrap (k * (s + par + 4)) = k * (s + par + 4) := IntWalk.i64_in _ (by omega)
          go_enter Try.func7, Try.ntmps7
          go_wp2_with fail
          refine (HM.out).mono ?_
          rintro e wx ⟨rfl, hwx⟩
          obtain rfl := hwx.symm
          go_wp2_with fail
          go_ret
          exact ⟨by rw [HN.out]; rfl, rfl⟩
  · have HN := Lib.hid (show someD kind t k s par = eachD kind t k s by unfold someD; rw [if_neg k1])
    have HE := Lib.hid hE
    have q := ibne k1
    clear hM hE
    go_enter Try.func7, Try.ntmps7
    go_wp2_with fail
    refine (HE.out).mono ?_
    rintro e wx ⟨rfl, hwx⟩
    obtain rfl := hwx.symm
    go_wp2_with fail
    go_ret
    exact ⟨by rw [HN.out]; rfl, rfl⟩
end Go.Proofs.Ytdkggdfofmgdlaa.Sp
