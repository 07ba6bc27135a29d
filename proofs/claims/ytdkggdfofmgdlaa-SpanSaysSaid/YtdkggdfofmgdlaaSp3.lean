/- Walks of layer 22: the reference's Each, Some. -/
import Derived.Test.YtdkggdfofmgdlaaSp2
namespace Go.Proofs.Ytdkggdfofmgdlaa.Sp
open Go.RowKit
set_option maxRecDepth 100000 in
set_option maxHeartbeats 4000000 in
theorem reach_any (kind t k s : Int) (w : World) : Calls Try.prog 6 #[.int .i64 kind, .int .i64 t, .int .i64 k, .int .i64 s] w fun e w' => e = .returned (.int .i64 (eachD kind t k s)) ∧ w' = w := by
  by_cases h1 : 1 ≤ t
  · by_cases h2 : t ≤ 32
    · by_cases h3 : 1 ≤ k
      · by_cases h4 : k ≤ 4000
        · by_cases h5 : 0 ≤ s
          · by_cases h6 : s ≤ 4000
            · have hm := (may_iff t k s).2 ⟨h1, h2, h3, h4, h5, h6⟩
              by_cases k2 : kind = 2
              · have hkd := k2
                have HN := Lib.hid (show eachD kind t k s = k * (3 + (t - 1) * (s + 4)) by unfold eachD; rw [if_pos ⟨by rw [hkd]; rfl, hm⟩, hkd]; rfl)
                obtain ⟨⟨b1, b2⟩, b3, b4⟩ := bnd (o := 3) (e := 4) hm (by omega) (by omega)
                have w1 : IntKind.i64.wrap (t - 1) = t - 1 := IntWalk.i64_in _ (by omega)
                have w2 : IntKind.i64.wrap (s + 4) = s + 4 := IntWalk.i64_in _ (by omega)
                have w3 : IntKind.i64.wrap ((t - 1) * (s + 4)) = (t - 1) * (s + 4) := IntWalk.i64_in _ (by omega)
                have w4 : IntKind.i64.wrap (3 + (t - 1) * (s + 4)) = 3 + (t - 1) * (s + 4) := IntWalk.i64_in _ (by omega)
                have w5 : IntKind.i64.wrap (k * (3 + (t - 1) * (s + 4))) = k * (3 + (t - 1) * (s + 4)) := IntWalk.i64_in _ (by omega)
                subst hkd
                clear hm
                go_enter Try.func6, Try.ntmps6
                go_wp2_with fail
                go_ret
                exact ⟨by rw [HN.out]; rfl, rfl⟩
              by_cases k3 : kind = 3
              · have hkd := k3
                have HN := Lib.hid (show eachD kind t k s = k * (3 + (t - 1) * (s + 4)) by unfold eachD; rw [if_pos ⟨by rw [hkd]; rfl, hm⟩, hkd]; rfl)
                obtain ⟨⟨b1, b2⟩, b3, b4⟩ := bnd (o := 3) (e := 4) hm (by omega) (by omega)
                have w1 : IntKind.i64.wrap (t - 1) = t - 1 := IntWalk.i64_in _ (by omega)
                have w2 : IntKind.i64.wrap (s + 4) = s + 4 := IntWalk.i64_in _ (by omega)
                have w3 : IntKind.i64.wrap ((t - 1) * (s + 4)) = (t - 1) * (s + 4) := IntWalk.i64_in _ (by omega)
                have w4 : IntKind.i64.wrap (3 + (t - 1) * (s + 4)) = 3 + (t - 1) * (s + 4) := IntWalk.i64_in _ (by omega)
                have w5 : IntKind.i64.wrap (k * (3 + (t - 1) * (s + 4))) = k * (3 + (t - 1) * (s + 4)) := IntWalk.i64_in _ (by omega)
                subst hkd
                clear hm
                go_enter Try.func6, Try.ntmps6
                go_wp2_with fail
                go_ret
                exact ⟨by rw [HN.out]; rfl, rfl⟩
              by_cases k4 : kind = 4
              · have hkd := k4
                have HN := Lib.hid (show eachD kind t k s = k * (6 + (t - 1) * (s + 8)) by unfold eachD; rw [if_pos ⟨by rw [hkd]; rfl, hm⟩, hkd]; rfl)
                obtain ⟨⟨b1, b2⟩, b3, b4⟩ := bnd (o := 6) (e := 8) hm (by omega) (by omega)
                have w1 : IntKind.i64.wrap (t - 1) = t - 1 := IntWalk.i64_in _ (by omega)
                have w2 : IntKind.i64.wrap (s + 8) = s + 8 := IntWalk.i64_in _ (by omega)
                have w3 : IntKind.i64.wrap ((t - 1) * (s + 8)) = (t - 1) * (s + 8) := IntWalk.i64_in _ (by omega)
                have w4 : IntKind.i64.wrap (6 + (t - 1) * (s + 8)) = 6 + (t - 1) * (s + 8) := IntWalk.i64_in _ (by omega)
                have w5 : IntKind.i64.wrap (k * (6 + (t - 1) * (s + 8))) = k * (6 + (t - 1) * (s + 8)) := IntWalk.i64_in _ (by omega)
                subst hkd
                clear hm
                go_enter Try.func6, Try.ntmps6
                go_wp2_with fail
                go_ret
                exact ⟨by rw [HN.out]; rfl, rfl⟩
              by_cases k5 : kind = 5
              · have hkd := k5
                have HN := Lib.hid (show eachD kind t k s = k * (4 + (t - 1) * (s + 4)) by unfold eachD; rw [if_pos ⟨by rw [hkd]; rfl, hm⟩, hkd]; rfl)
                obtain ⟨⟨b1, b2⟩, b3, b4⟩ := bnd (o := 4) (e := 4) hm (by omega) (by omega)
                have w1 : IntKind.i64.wrap (t - 1) = t - 1 := IntWalk.i64_in _ (by omega)
                have w2 : IntKind.i64.wrap (s + 4) = s + 4 := IntWalk.i64_in _ (by omega)
                have w3 : IntKind.i64.wrap ((t - 1) * (s + 4)) = (t - 1) * (s + 4) := IntWalk.i64_in _ (by omega)
                have w4 : IntKind.i64.wrap (4 + (t - 1) * (s + 4)) = 4 + (t - 1) * (s + 4) := IntWalk.i64_in _ (by omega)
                have w5 : IntKind.i64.wrap (k * (4 + (t - 1) * (s + 4))) = k * (4 + (t - 1) * (s + 4)) := IntWalk.i64_in _ (by omega)
                subst hkd
                clear hm
                go_enter Try.func6, Try.ntmps6
                go_wp2_with fail
                go_ret
                exact ⟨by rw [HN.out]; rfl, rfl⟩
              have HN := Lib.hid (show eachD kind t k s = 0 by
                unfold eachD isK
                rw [if_neg]
                simp only [Bool.and_eq_true, decide_eq_true_eq]
                omega)
              have q4 := ibeq_no k4
              have q5 := ibeq_no k5
              have q2 := ibeq_no k2
              have q3 := ibeq_no k3
              clear k2 k3 k4 k5 hm
              go_enter Try.func6, Try.ntmps6
              go_wp2_with fail
              go_ret
              exact ⟨by rw [HN.out]; rfl, rfl⟩
            · have HN := Lib.hid (show eachD kind t k s = 0 by unfold eachD; rw [if_neg (fun h => absurd ((may_iff t k s).1 h.2) (by omega))])
              go_enter Try.func6, Try.ntmps6
              go_wp2_with fail
              go_ret
              exact ⟨by rw [HN.out]; rfl, rfl⟩
          · have HN := Lib.hid (show eachD kind t k s = 0 by unfold eachD; rw [if_neg (fun h => absurd ((may_iff t k s).1 h.2) (by omega))])
            go_enter Try.func6, Try.ntmps6
            go_wp2_with fail
            go_ret
            exact ⟨by rw [HN.out]; rfl, rfl⟩
        · have HN := Lib.hid (show eachD kind t k s = 0 by unfold eachD; rw [if_neg (fun h => absurd ((may_iff t k s).1 h.2) (by omega))])
          go_enter Try.func6, Try.ntmps6
          go_wp2_with fail
          go_ret
          exact ⟨by rw [HN.out]; rfl, rfl⟩
      · have HN := Lib.hid (show eachD kind t k s = 0 by unfold eachD; rw [if_neg (fun h => absurd ((may_iff t k s).1 h.2) (by omega))])
        go_enter Try.func6, Try.ntmps6
        go_wp2_with fail
        go_ret
        exact ⟨by rw [HN.out]; rfl, rfl⟩
    · have HN := Lib.hid (show eachD kind t k s = 0 by unfold eachD; rw [if_neg (fun h => absurd ((may_iff t k s).1 h.2) (by omega))])
      go_enter Try.func6, Try.ntmps6
      go_wp2_with fail
      go_ret
      exact ⟨by rw [HN.out]; rfl, rfl⟩
  · have HN := Lib.hid (show eachD kind t k s = 0 by unfold eachD; rw [if_neg (fun h => absurd ((may_iff t k s).1 h.2) (by omega))])
    go_enter Try.func6, Try.ntmps6
    go_wp2_with fail
    go_ret
    exact ⟨by rw [HN.out]; rfl, rfl⟩
theorem each2_zero (t k s : Int) : eachD 2 t k s = 0 ↔ mayD t k s = false := by
  unfold eachD
  cases hm : mayD t k s with
  | false => simp
  | true =>
    obtain ⟨⟨b1, b2⟩, b3, b4⟩ := bnd (o := onceD 2) (e := stepD 2) hm (once_in 2) (step_in 2)
    obtain ⟨h1, h2, h3, h4, h5, h6⟩ := (may_iff t k s).1 hm
    rw [if_pos ⟨rfl, rfl⟩]
    have ho := once_in 2
    generalize (t - 1) * (s + stepD 2) = P at *
    generalize onceD 2 = o at *
    have hpos : 1 * 1 ≤ k * (o + P) := Int.mul_le_mul h3 (by omega) (by omega) (by omega)
    constructor
    · intro h; omega
    · intro h; cases h
theorem rsome_any (kind t k s par : Int) (w : World) : Calls Try.prog 8 #[.int .i64 kind, .int .i64 t, .int .i64 k, .int .i64 s, .int .i64 par] w fun e w' => e = .returned (.int .i64 (someD kind t k s par)) ∧ w' = w := by
  by_cases k1 : kind = 1
  · have hE := reach_any 2 t k s w
    cases hm : mayD t k s with
    | false =>
      rw [(each2_zero t k s).2 hm] at hE
      have HN := Lib.hid (show someD kind t k s par = 0 by rw [some_one k1, if_neg (by simp [hm]; try omega)])
      have HE := Lib.hid hE
      have q := ibne_no k1
      clear hE hm
      go_enter Try.func8, Try.ntmps8
      go_wp2_with fail
      refine (HE.out).mono ?_
      rintro e wx ⟨rfl, hwx⟩
      obtain rfl := hwx.symm
      go_wp2_with fail
      go_ret
      exact ⟨by rw [HN.out]; rfl, rfl⟩
    | true =>
      have hz : ¬ eachD 2 t k s = 0 := fun h => by have := (each2_zero t k s).1 h; rw [hm] at this; cases this
      have z := ibeq_no hz
      generalize eachD 2 t k s = E2 at *
      clear hz
      by_cases p1 : par < 1
      · have HN := Lib.hid (show someD kind t k s par = 0 by rw [some_one k1, if_neg (by simp [hm]; try omega)])
        have HE := Lib.hid hE
        have q := ibne_no k1
        clear hE hm
        go_enter Try.func8, Try.ntmps8
        go_wp2_with fail
        refine (HE.out).mono ?_
        rintro e wx ⟨rfl, hwx⟩
        obtain rfl := hwx.symm
        go_wp2_with fail
        go_ret
        exact ⟨by rw [HN.out]; rfl, rfl⟩
      · by_cases p2 : 1024 < par
        · have HN := Lib.hid (show someD kind t k s par = 0 by rw [some_one k1, if_neg (by simp [hm]; try omega)])
          have HE := Lib.hid hE
          have q := ibne_no k1
          clear hE hm
          go_enter Try.func8, Try.ntmps8
          go_wp2_with fail
          refine (HE.out).mono ?_
          rintro e wx ⟨rfl, hwx⟩
          obtain rfl := hwx.symm
          go_wp2_with fail
          go_ret
          exact ⟨by rw [HN.out]; rfl, rfl⟩
        · have HN := Lib.hid (show someD kind t k s par = k * (s + par + 4) by rw [some_one k1, if_pos ⟨hm, by omega, by omega⟩])
          obtain ⟨b3, b4⟩ := bnd2 (p := par) hm (by omega)
          obtain ⟨h1, h2, h3, h4, h5, h6⟩ := (may_iff t k s).1 hm
          have HE := Lib.hid hE
          have q := ibne_no k1
          clear hm hE
          have w1 : IntKind.i64.wrap (s + par) = s + par := IntWalk.i64_in _ (by omega)
          have w2 : IntKind.i64.wrap (s + par + 4) = s + par + 4 := IntWalk.i64_in _ (by omega)
          have w5 : IntKind.i64.wrap (k * (s + par + 4)) = k * (s + par + 4) := IntWalk.i64_in _ (by omega)
          go_enter Try.func8, Try.ntmps8
          go_wp2_with fail
          refine (HE.out).mono ?_
          rintro e wx ⟨rfl, hwx⟩
          obtain rfl := hwx.symm
          go_wp2_with fail
          go_ret
          exact ⟨by rw [HN.out]; rfl, rfl⟩
  · have hE := reach_any kind t k s w
    have HN := Lib.hid (show someD kind t k s par = eachD kind t k s by unfold someD; rw [if_neg k1])
    have HE := Lib.hid hE
    have q := ibne k1
    clear hE
    go_enter Try.func8, Try.ntmps8
    go_wp2_with fail
    refine (HE.out).mono ?_
    rintro e wx ⟨rfl, hwx⟩
    obtain rfl := hwx.symm
    go_wp2_with fail
    go_ret
    exact ⟨by rw [HN.out]; rfl, rfl⟩
end Go.Proofs.Ytdkggdfofmgdlaa.Sp
