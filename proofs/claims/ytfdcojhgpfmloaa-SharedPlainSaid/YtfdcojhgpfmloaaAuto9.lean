/- Package auto: Do, whole. -/
import Derived.Test.YtfdcojhgpfmloaaAuto8
namespace Go.Proofs.Ytfdcojhgpfmloaa.Aut
open Go.RowKit

theorem from3_pos (k : Int) : ((from3 k).2.2.toNat : Int) = (from3 k).2.2 := by
  unfold from3
  repeat' split
  all_goals rfl
theorem do_any (g h : Nat) (s : List Nat) (e : Ev) (w : World) (H : AutoIn w g h s) (hm : s.length ≤ 9223372036854775807) :
    Calls Try.prog 65 #[.pointer (some ⟨g, 0, none⟩), .agg (decE e).toArray] w fun r w' => r = .returned (.int .i64 (doS s e).1) ∧ AutoIn w' g h (doS s e).2 ∧ DoneW w h e w' := by
  obtain ⟨kd, th, rd, ct⟩ := e
  have H1 := H.alloc (boxE ⟨kd, th, rd, ct⟩)
  unfold doS
  cases rd
  · rw [if_neg (by simp)]
    by_cases k0 : kd = 0 ∨ kd = 5
    · rw [if_pos k0]
      refine (do_free g h s kd th ct w k0).mono ?_
      rintro r w' ⟨rfl, rfl⟩
      exact ⟨rfl, H1, 0, .inl rfl⟩
    rw [if_neg k0]
    by_cases k1 : kd < 0 ∨ 5 < kd
    · rw [if_pos k1]
      refine (do_wrong g h s kd th ct w k1).mono ?_
      rintro r w' ⟨rfl, rfl⟩
      exact ⟨rfl, H1, 0, .inl rfl⟩
    rw [if_neg k1]
    by_cases hh : hasB s th = false
    · rw [if_pos hh]
      refine (do_none g h s kd th ct w (by omega) H hh).mono ?_
      rintro r w' ⟨rfl, rfl⟩
      exact ⟨rfl, H1, 0, .inl rfl⟩
    rw [if_neg hh]
    have hb : 0 ≤ th ∧ th < s.length := by simpa [hasB] using hh
    obtain ⟨k, rfl⟩ := Int.eq_ofNat_of_zero_le hb.1
    have hl : k < s.length := by omega
    have hs : stateOf s (k : Int) = s[k] := by simp [stateOf, hl]
    simp only [hs]
    by_cases hx : (s[k] : Int) ≠ (from3 kd).1
    · rw [if_pos hx]
      refine (do_not g h k s kd ct w (by omega) H hl hm hx).mono ?_
      rintro r w' ⟨rfl, n, rfl⟩
      exact ⟨by rw [from3_pos], H1, n, .inl rfl⟩
    rw [if_neg hx]
    simp only [ne_eq, Decidable.not_not] at hx
    rcases (show kd = 1 ∨ kd = 2 ∨ kd = 3 ∨ kd = 4 by omega) with rfl | rfl | rfl | rfl
    · rw [if_neg (by simp)]
      refine (do_ask g h k s ct w H hl hm (by simpa [from3] using hx)).mono ?_
      rintro r w' ⟨rfl, n, rfl⟩
      exact ⟨rfl, (H1.drewN n).set k 1 hl, n, .inr ⟨k, 1, rfl⟩⟩
    · by_cases hi : 0 ≤ idxOf s 2
      · rw [if_pos ⟨rfl, hi⟩]
        refine (do_busy g h k s ct w H hl hm (by simp [from3] at hx; omega) hi).mono ?_
        rintro r w' ⟨rfl, n, rfl⟩
        exact ⟨rfl, H1, n, .inl rfl⟩
      · rw [if_neg (fun q => hi q.2)]
        refine (do_enter g h k s ct w H hl hm (by simp [from3] at hx; omega) (by omega)).mono ?_
        rintro r w' ⟨rfl, n, rfl⟩
        exact ⟨rfl, (H1.drewN n).set k 2 hl, n, .inr ⟨k, 2, rfl⟩⟩
    · rw [if_neg (by simp)]
      refine (do_exit g h k s ct w H hl hm (by simp [from3] at hx; omega)).mono ?_
      rintro r w' ⟨rfl, n, rfl⟩
      exact ⟨rfl, (H1.drewN n).set k 3 hl, n, .inr ⟨k, 3, rfl⟩⟩
    · rw [if_neg (by simp)]
      refine (do_rest g h k s ct w H hl hm (by simp [from3] at hx; omega)).mono ?_
      rintro r w' ⟨rfl, n, rfl⟩
      exact ⟨rfl, (H1.drewN n).set k 0 hl, n, .inr ⟨k, 0, rfl⟩⟩
  · rw [if_pos rfl]
    refine (do_read g h s kd th ct w).mono ?_
    rintro r w' ⟨rfl, rfl⟩
    exact ⟨rfl, H1, 0, .inl rfl⟩
end Go.Proofs.Ytfdcojhgpfmloaa.Aut
