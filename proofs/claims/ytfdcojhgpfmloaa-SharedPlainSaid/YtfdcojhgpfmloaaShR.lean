/- The reference of layer 11: Writer, Readers, Do. -/
import Derived.Test.YtfdcojhgpfmloaaShP
namespace Go.Proofs.Ytfdcojhgpfmloaa.Sha
open Go.RowKit

section
variable (T : Int) (l : List Ev) (A : Option Addr) (cap : Nat) (B : Nat) (w : World) (hm : l.length ≤ 60) (hs : Sl w B A (l.flatMap decE))
include hm hs
theorem rwriter_any : Calls Try.prog 20 #[.int .i64 T, .slice A l.length cap] w fun e w' => e = .returned (.int .i64 (wOf (stL (som T) l))) ∧ w' = w := by
  have HS := Lib.hid (fun t => rstate_any l A cap t B w (by omega) hs)
  have HR := Lib.hid (fun t => reads_any l A cap t B w (by omega) hs)
  have hlen := Lib.hid (stL_len (som T) l)
  have hget := Lib.hid (fun k h => stL_get (som T) l k h)
  have hle := som_le T
  clear hs
  generalize stL (som T) l = s at hlen hget ⊢
  go_enter Try.func20, Try.ntmps20
  go_wp2
  go_loop [5] (fun i => ∃ k : Nat, k ≤ s.length ∧ i = .int .i64 k ∧ ∀ j (h : j < s.length), j < k → s[j] ≠ (2, false)) (fun i => s.length - (intOf i).toNat)
  case atStart => exact ⟨0, by omega, rfl, by intro j _ h; omega⟩
  case round =>
    obtain ⟨k, hk, rfl, hno⟩ := hrel
    have HN := Lib.hid hno
    clear hno
    have hle2 : s.length ≤ 32 := by rw [hlen.out]; exact hle
    by_cases hlt : k < s.length
    · have hlt2 : k < som T := by rw [← hlen.out]; exact hlt
      have hg := Lib.hid (hget.out k hlt)
      by_cases h2 : rstate l (k : Nat) = 2
      · by_cases hr : reads l (k : Nat) = true
        · have HX := Lib.hid (show s[k] ≠ (2, false) by rw [hg.out, h2, hr]; decide)
          go_wp2_with fail
          refine (some_any T _).mono ?_
          rintro e wx ⟨rfl, hwx⟩
          obtain rfl := hwx.symm
          go_wp2_with fail
          refine (HS.out k).mono ?_
          rintro e wx ⟨rfl, hwx⟩
          obtain rfl := hwx.symm
          rw [h2]
          go_wp2_with fail
          refine (HR.out k).mono ?_
          rintro e wx ⟨rfl, hwx⟩
          obtain rfl := hwx.symm
          rw [hr]
          go_wp2_with fail
          go_round
          case rel => exact ⟨k + 1, by omega, by go_num, fun j h1 h2 => by
            by_cases h3 : j < k
            · exact HN.out j h1 h3
            · obtain rfl : j = k := by omega
              exact HX.out⟩
          case measure => simp [intOf]; omega
        · have hr : reads l (k : Nat) = false := by simpa using hr
          have he := Lib.hid (wOf_some hlt (by rw [hg.out, h2, hr]) HN.out)
          go_wp2_with fail
          refine (some_any T _).mono ?_
          rintro e wx ⟨rfl, hwx⟩
          obtain rfl := hwx.symm
          go_wp2_with fail
          refine (HS.out k).mono ?_
          rintro e wx ⟨rfl, hwx⟩
          obtain rfl := hwx.symm
          rw [h2]
          go_wp2_with fail
          refine (HR.out k).mono ?_
          rintro e wx ⟨rfl, hwx⟩
          obtain rfl := hwx.symm
          rw [hr]
          go_wp2_with fail
          go_ret
          exact ⟨by rw [he.out]; rfl, rfl⟩
      · have HX := Lib.hid (show s[k] ≠ (2, false) by rw [hg.out]; intro q; exact h2 (congrArg Prod.fst q))
        have e1 := ibeq_no (show ¬ (rstate l (k : Nat) : Int) = 2 by omega)
        clear h2
        go_wp2_with fail
        refine (some_any T _).mono ?_
        rintro e wx ⟨rfl, hwx⟩
        obtain rfl := hwx.symm
        go_wp2_with fail
        refine (HS.out k).mono ?_
        rintro e wx ⟨rfl, hwx⟩
        obtain rfl := hwx.symm
        go_wp2_with fail
        go_round
        case rel => exact ⟨k + 1, by omega, by go_num, fun j h1 h2 => by
          by_cases h3 : j < k
          · exact HN.out j h1 h3
          · obtain rfl : j = k := by omega
            exact HX.out⟩
        case measure => simp [intOf]; omega
    · have he := Lib.hid (wOf_none (fun i hi => HN.out i hi (by omega)))
      have hlt2 : ¬ k < som T := by rw [← hlen.out]; exact hlt
      go_wp2_with fail
      refine (some_any T _).mono ?_
      rintro e wx ⟨rfl, hwx⟩
      obtain rfl := hwx.symm
      go_wp2_with fail
      go_ret
      exact ⟨by rw [he.out]; rfl, rfl⟩
theorem rreaders_any : Calls Try.prog 22 #[.int .i64 T, .slice A l.length cap] w fun e w' => e = .returned (.int .i64 (rOf (stL (som T) l))) ∧ w' = w := by
  have HS := Lib.hid (fun t => rstate_any l A cap t B w (by omega) hs)
  have HR := Lib.hid (fun t => reads_any l A cap t B w (by omega) hs)
  have hlen := Lib.hid (stL_len (som T) l)
  have hget := Lib.hid (fun k h => stL_get (som T) l k h)
  have hle := som_le T
  clear hs
  generalize stL (som T) l = s at hlen hget ⊢
  go_enter Try.func22, Try.ntmps22
  go_wp2
  go_loop [5, 6] (fun n i => ∃ k : Nat, k ≤ s.length ∧ i = .int .i64 k ∧ n = .int .i64 (rOf (s.take k))) (fun _ i => s.length - (intOf i).toNat)
  case atStart => exact ⟨0, by omega, rfl, rfl⟩
  case round =>
    obtain ⟨k, hk, rfl, rfl⟩ := hrel
    have hle2 : s.length ≤ 32 := by rw [hlen.out]; exact hle
    have hq := rOf_le s k
    by_cases hlt : k < s.length
    · have hlt2 : k < som T := by rw [← hlen.out]; exact hlt
      have hg := Lib.hid (hget.out k hlt)
      have hst := Lib.hid (rOf_take s k hlt)
      generalize rOf (s.take k) = q at *
      by_cases h2 : rstate l (k : Nat) = 2
      · by_cases hr : reads l (k : Nat) = true
        · have HX := Lib.hid (show rOf (s.take (k + 1)) = q + 1 by rw [hst.out, hg.out, h2, hr, if_pos rfl])
          go_wp2_with fail
          refine (some_any T _).mono ?_
          rintro e wx ⟨rfl, hwx⟩
          obtain rfl := hwx.symm
          go_wp2_with fail
          refine (HS.out k).mono ?_
          rintro e wx ⟨rfl, hwx⟩
          obtain rfl := hwx.symm
          rw [h2]
          go_wp2_with fail
          refine (HR.out k).mono ?_
          rintro e wx ⟨rfl, hwx⟩
          obtain rfl := hwx.symm
          rw [hr]
          go_wp2_with fail
          go_round
          case rel => exact ⟨k + 1, by omega, by go_num, by rw [HX.out]; go_num⟩
          case measure => simp [intOf]; omega
        · have hr : reads l (k : Nat) = false := by simpa using hr
          have HX := Lib.hid (show rOf (s.take (k + 1)) = q by rw [hst.out, hg.out, h2, hr, if_neg (by decide)]; rfl)
          go_wp2_with fail
          refine (some_any T _).mono ?_
          rintro e wx ⟨rfl, hwx⟩
          obtain rfl := hwx.symm
          go_wp2_with fail
          refine (HS.out k).mono ?_
          rintro e wx ⟨rfl, hwx⟩
          obtain rfl := hwx.symm
          rw [h2]
          go_wp2_with fail
          refine (HR.out k).mono ?_
          rintro e wx ⟨rfl, hwx⟩
          obtain rfl := hwx.symm
          rw [hr]
          go_wp2_with fail
          go_round
          case rel => exact ⟨k + 1, by omega, by go_num, by rw [HX.out]⟩
          case measure => simp [intOf]; omega
      · have HX := Lib.hid (show rOf (s.take (k + 1)) = q by rw [hst.out, hg.out, if_neg (fun e => h2 (congrArg Prod.fst e))]; rfl)
        have e1 := ibeq_no (show ¬ (rstate l (k : Nat) : Int) = 2 by omega)
        clear h2
        go_wp2_with fail
        refine (some_any T _).mono ?_
        rintro e wx ⟨rfl, hwx⟩
        obtain rfl := hwx.symm
        go_wp2_with fail
        refine (HS.out k).mono ?_
        rintro e wx ⟨rfl, hwx⟩
        obtain rfl := hwx.symm
        go_wp2_with fail
        go_round
        case rel => exact ⟨k + 1, by omega, by go_num, by rw [HX.out]⟩
        case measure => simp [intOf]; omega
    · have he := Lib.hid (show rOf s = rOf (s.take k) by rw [List.take_of_length_le (by omega)])
      have hlt2 : ¬ k < som T := by rw [← hlen.out]; exact hlt
      go_wp2_with fail
      refine (some_any T _).mono ?_
      rintro e wx ⟨rfl, hwx⟩
      obtain rfl := hwx.symm
      go_wp2_with fail
      go_ret
      exact ⟨by rw [he.out]; rfl, rfl⟩
end
end Go.Proofs.Ytfdcojhgpfmloaa.Sha
