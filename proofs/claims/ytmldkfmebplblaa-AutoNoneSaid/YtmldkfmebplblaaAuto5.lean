/- Walks of the reference of layer 10: Holder. -/
import Derived.Test.YtmldkfmebplblaaAuto4
namespace Go.Proofs.Ytmldkfmebplblaa.Aut
open Go.RowKit

/-- At what each thread is, behind events. -/
def stOf (n : Nat) (l : List Ev) : List Nat := (List.range n).map fun i => rstate l (i : Nat)
theorem som_le (t : Int) : som t ≤ 32 := by unfold som; split; omega; split <;> omega

theorem rholder_any (T : Int) (l : List Ev) (A : Option Addr) (cap : Nat) (B : Nat) (w : World) (hm : l.length ≤ 9223372036854775807) (hs : Sl w B A (l.flatMap decE)) :
    Calls Try.prog 52 #[.int .i64 T, .slice A l.length cap] w fun e w' => e = .returned (.int .i64 (idxOf (stOf (som T) l) 2)) ∧ w' = w := by
  have HS := Lib.hid (fun t => rstate_any l A cap t B w hm hs)
  have hlen := Lib.hid (show (stOf (som T) l).length = som T by simp [stOf])
  have hget : Hid (∀ k (h : k < (stOf (som T) l).length), (stOf (som T) l)[k] = rstate l (k : Nat)) := Lib.hid (fun k h => by simp [stOf])
  have hle := som_le T
  clear hs
  generalize stOf (som T) l = s at hlen hget ⊢
  go_enter Try.func52, Try.ntmps52
  go_wp2
  go_loop [5] (fun i => ∃ k : Nat, k ≤ s.length ∧ i = .int .i64 k ∧ ∀ j (h : j < s.length), j < k → s[j] ≠ 2) (fun i => s.length - (intOf i).toNat)
  case atStart => exact ⟨0, by omega, rfl, by intro j _ h; omega⟩
  case round =>
    obtain ⟨k, hk, rfl, hno⟩ := hrel
    have HN := Lib.hid hno
    clear hno
    have hle2 : s.length ≤ 32 := by rw [hlen.out]; exact hle
    by_cases hlt : k < s.length
    · have hlt2 : k < som T := by rw [← hlen.out]; exact hlt
      have hg := Lib.hid (hget.out k hlt)
      by_cases hx : s[k] = 2
      · have he := Lib.hid (idx_some hlt hx HN.out)
        have e1 : rstate l (k : Nat) = 2 := by rw [← hg.out]; exact hx
        clear hx
        go_wp2_with fail
        refine (some_any T _).mono ?_
        rintro e wx ⟨rfl, hwx⟩
        obtain rfl := hwx.symm
        go_wp2_with fail
        refine (HS.out k).mono ?_
        rintro e wx ⟨rfl, hwx⟩
        obtain rfl := hwx.symm
        rw [e1]
        go_wp2_with fail
        go_ret
        exact ⟨by rw [he.out]; rfl, rfl⟩
      · have HX := Lib.hid hx
        have e1 := nbeq_no (show ¬ rstate l (k : Nat) = 2 by rw [← hg.out]; exact hx)
        clear hx
        go_wp2_with fail
        refine (some_any T _).mono ?_
        rintro e wx ⟨rfl, hwx⟩
        obtain rfl := hwx.symm
        go_wp2_with fail
        refine (HS.out k).mono ?_
        rintro e wx ⟨rfl, hwx⟩
        obtain rfl := hwx.symm
        go_wp2_with fail
        go_round
        case rel => exact ⟨k + 1, by omega, by go_num, fun j h1 h2 => by
          by_cases h3 : j < k
          · exact HN.out j h1 h3
          · obtain rfl : j = k := by omega
            exact HX.out⟩
        case measure => simp [intOf]; omega
    · have he := Lib.hid (idx_none (x := 2) (fun i hi => HN.out i hi (by omega)))
      have hlt2 : ¬ k < som T := by rw [← hlen.out]; exact hlt
      go_wp2_with fail
      refine (some_any T _).mono ?_
      rintro e wx ⟨rfl, hwx⟩
      obtain rfl := hwx.symm
      go_wp2_with fail
      go_ret
      exact ⟨by rw [he.out]; rfl, rfl⟩
end Go.Proofs.Ytmldkfmebplblaa.Aut
