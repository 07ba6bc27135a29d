/- Walks of package auto: has, State, Holder, from, New. -/
import Derived.Test.YtfdcojhgpfmloaaAuto
namespace Go.Proofs.Ytfdcojhgpfmloaa.Aut
open Go.RowKit

theorem has_any (g : Nat) (s : List Nat) (t : Int) (w : World) (h : AutoAt w g s) :
    Calls Try.prog 94 #[.pointer (some ⟨g, 0, none⟩), .int .i64 t] w fun e w' => e = .returned (.bool (hasB s t)) ∧ w' = w := by
  by_cases h0 : 0 ≤ t
  · have hn := Lib.hid (show hasB s t = decide (t < s.length) by simp [hasB, h0])
    go_enter Try.func94, Try.ntmps94
    go_wp2_with fail
    refine (threads_any g s _ h).mono ?_
    rintro e wx ⟨rfl, hwx⟩
    obtain rfl := hwx.symm
    go_wp2_with fail
    go_ret
    exact ⟨by rw [hn.out]; rfl, rfl⟩
  · have hn := Lib.hid (show hasB s t = false by simp [hasB]; omega)
    have h1 : t < 0 := by omega
    go_enter Try.func94, Try.ntmps94
    go_wp2_with fail
    go_ret
    exact ⟨by rw [hn.out]; rfl, rfl⟩
theorem has_nil (t : Int) (w : World) :
    Calls Try.prog 94 #[.pointer none, .int .i64 t] w fun e w' => e = .returned (.bool false) ∧ w' = w := by
  by_cases h0 : 0 ≤ t
  · have h1 : ¬ t < 0 := by omega
    have hd := Lib.hid (show decide (t < 0) = false by simpa using h0)
    go_enter Try.func94, Try.ntmps94
    go_wp2_with fail
    refine (threads_nil _).mono ?_
    rintro e wx ⟨rfl, hwx⟩
    obtain rfl := hwx.symm
    go_wp2_with fail
    go_ret
    exact ⟨by first | rfl | (rw [← hd.out]; rfl), rfl⟩
  · have h1 : t < 0 := by omega
    go_enter Try.func94, Try.ntmps94
    go_wp2_with fail
    go_ret
    exact ⟨rfl, rfl⟩

theorem idx_none {s : List Nat} {x : Nat} (h : ∀ i (hi : i < s.length), s[i] ≠ x) : idxOf s x = -1 := by
  unfold idxOf
  rw [List.findIdx?_eq_none_iff.2]
  intro y hy
  obtain ⟨i, hi, rfl⟩ := List.getElem_of_mem hy
  simpa using h i hi
theorem idx_some {s : List Nat} {x k : Nat} (hk : k < s.length) (he : s[k] = x) (h : ∀ i (hi : i < s.length), i < k → s[i] ≠ x) : idxOf s x = k := by
  unfold idxOf
  rw [(List.findIdx?_eq_some_iff_getElem (i := k)).2 ⟨hk, by simpa using he, fun j hj => by simpa using h j (by omega) hj⟩]

/-- slices.Index over what each thread is at. -/
theorem index_any (s : List Nat) (A : Option Addr) (cap x : Nat) (w : World) (hm : s.length ≤ 9223372036854775807) (hs : ∀ i (hi : i < s.length), ∃ b, A = some ⟨b, 0, none⟩ ∧ w.cell? ⟨b, i, none⟩ = some (.int .i64 s[i])) :
    Calls Try.prog 96 #[.slice A s.length cap, .int .i64 x] w fun e w' => e = .returned (.int .i64 (idxOf s x)) ∧ w' = w := by
  have HS := Lib.hid hs
  clear hs
  go_enter Try.func96, Try.ntmps96
  go_wp2
  go_loop [8] (fun i => ∃ k : Nat, k ≤ s.length ∧ i = .int .i64 k ∧ ∀ j (h : j < s.length), j < k → s[j] ≠ x) (fun i => s.length - (intOf i).toNat)
  case atStart => exact ⟨0, by omega, rfl, by intro j _ h; omega⟩
  case round =>
    obtain ⟨k, hk, rfl, hno⟩ := hrel
    have HN := Lib.hid hno
    clear hno
    by_cases hlt : k < s.length
    · obtain ⟨b, rfl, h0⟩ := HS.out k hlt
      by_cases hx : s[k] = x
      · have e1 := nbeq hx.symm
        have he := Lib.hid (idx_some hlt hx HN.out)
        clear hx
        go_wp2
        go_ret
        exact ⟨by rw [he.out]; rfl, rfl⟩
      · have e1 := nbeq_no (show ¬ x = s[k] from fun e => hx e.symm)
        have HX := Lib.hid hx
        clear hx
        go_wp2
        go_round
        case rel => exact ⟨k + 1, by omega, by go_num, fun j h1 h2 => by
          by_cases h3 : j < k
          · exact HN.out j h1 h3
          · obtain rfl : j = k := by omega
            exact HX.out⟩
        case measure => simp [intOf]; omega
    · have he := Lib.hid (idx_none (x := x) (fun i hi => HN.out i hi (by omega)))
      go_wp2
      go_ret
      exact ⟨by rw [he.out]; rfl, rfl⟩

theorem holder_any (g : Nat) (s : List Nat) (w : World) (hm : s.length ≤ 9223372036854775807) (h : AutoAt w g s) :
    Calls Try.prog 66 #[.pointer (some ⟨g, 0, none⟩)] w fun e w' => e = .returned (.int .i64 (idxOf s 2)) ∧ w' = w := by
  obtain ⟨A, c, c0, _, hc⟩ := h.slot
  have hc' : ∀ i (hi : i < s.length), ∃ b, A = some ⟨b, 0, none⟩ ∧ w.cell? ⟨b, i, none⟩ = some (.int .i64 s[i]) := fun i hi => by
    obtain ⟨b, h1, h2, _⟩ := hc i hi
    exact ⟨b, h1, h2⟩
  have HC := Lib.hid hc'
  clear hc hc'
  go_enter Try.func66, Try.ntmps66
  go_wp2_with fail
  refine (index_any s A c 2 _ hm HC.out).mono ?_
  rintro e wx ⟨rfl, hwx⟩
  obtain rfl := hwx.symm
  go_wp2_with fail
  go_ret
  exact ⟨rfl, rfl⟩
theorem holder_nil (w : World) :
    Calls Try.prog 66 #[.pointer none] w fun e w' => e = .returned (.int .i64 (-1)) ∧ w' = w := by
  go_enter Try.func66, Try.ntmps66
  go_wp2
  go_ret
  exact ⟨rfl, rfl⟩

/-- At what a thread must be for an event, what it is at then, and what is wrong else. -/
def from3 (k : Int) : Int × Int × Int := if k = 1 then (0, 1, 5) else if k = 2 then (1, 2, 6) else if k = 3 then (2, 3, 6) else (3, 0, 6)
theorem from_any (k : Int) (w : World) :
    Calls Try.prog 95 #[.int .i64 k] w fun e w' => e = .returned (.tuple #[.int .i64 (from3 k).1, .int .i64 (from3 k).2.1, .int .i64 (from3 k).2.2]) ∧ w' = w := by
  by_cases h1 : k = 1
  · subst h1
    go_enter Try.func95, Try.ntmps95
    go_wp2
    go_ret3
    exact ⟨rfl, rfl⟩
  · by_cases h2 : k = 2
    · subst h2
      go_enter Try.func95, Try.ntmps95
      go_wp2
      go_ret3
      exact ⟨rfl, rfl⟩
    · by_cases h3 : k = 3
      · subst h3
        go_enter Try.func95, Try.ntmps95
        go_wp2
        go_ret3
        exact ⟨rfl, rfl⟩
      · have hn := Lib.hid (show from3 k = (3, 0, 6) by simp [from3, h1, h2, h3])
        have e1 := ibeq_no h1
        have e2 := ibeq_no h2
        have e3 := ibeq_no h3
        clear h1 h2 h3
        go_enter Try.func95, Try.ntmps95
        go_wp2
        go_ret3
        exact ⟨by rw [hn.out]; rfl, rfl⟩
end Go.Proofs.Ytfdcojhgpfmloaa.Aut
