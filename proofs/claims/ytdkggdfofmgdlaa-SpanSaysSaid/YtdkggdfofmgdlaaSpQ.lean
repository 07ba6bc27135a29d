/- Whether a trace moves and keeps: the plain law of layer 22's Keeps and Moves. -/
import Derived.Test.YtdkggdfofmgdlaaSpP
namespace Go.Proofs.Ytdkggdfofmgdlaa.Sp

/-- Does somebody enter at a place, does somebody wait there? -/
def entD (out : List St) (j : Nat) : Bool := out.any fun s => decide (s.en = (j : Int))
def wtD (out : List St) (j : Nat) : Bool := out.any fun s => decide (s.ask ≤ (j : Int)) && (decide (s.en < 0) || decide ((j : Int) < s.en))
/-- How long a stay waits. -/
def waitD (n : Nat) (s : St) : Int := if s.en < 0 then (n : Int) - 1 - s.ask else s.en - s.ask
def keepsD (out : List St) (n : Nat) (within : Int) : Bool := out.all fun s => decide (waitD n s ≤ within)
/-- The next entry from a place on; the end, if there is none. -/
def nextE (out : List St) (n : Nat) : Nat → Nat
  | 0 => n
  | d + 1 => if entD out (n - (d + 1)) then n - (d + 1) else nextE out n d
/-- The program's test of a place, and the reference's. -/
def badP (out : List St) (n : Nat) (within : Int) (at_ : Nat) : Bool := wtD out at_ && decide (within < (nextE out n (n - (at_ + 1)) : Int) - (at_ : Int)) && decide (within ≤ (n : Int) - 1 - (at_ : Int))
def someR (out : List St) (n : Nat) (within : Int) (at_ : Nat) : Bool := (List.range n).any fun k => decide ((k : Int) + 1 ≤ within) && entD out (at_ + (k + 1))
def badR (out : List St) (n : Nat) (within : Int) (at_ : Nat) : Bool := wtD out at_ && !decide ((n : Int) - 1 - (at_ : Int) < within) && !someR out n within at_
theorem nextE_spec (out : List St) (n : Nat) : ∀ d, d ≤ n → (n - d ≤ nextE out n d ∧ nextE out n d ≤ n) ∧ (nextE out n d < n → entD out (nextE out n d) = true) ∧ ∀ j, n - d ≤ j → j < nextE out n d → entD out j = false
  | 0, _ => ⟨⟨by simp [nextE], Nat.le_refl _⟩, fun h => by simp [nextE] at h, fun j h1 h2 => by simp [nextE] at h2; omega⟩
  | d + 1, h => by
    obtain ⟨⟨h1, h2⟩, h3, h4⟩ := nextE_spec out n d (by omega)
    unfold nextE
    by_cases he : entD out (n - (d + 1)) = true
    · rw [if_pos he]
      exact ⟨⟨Nat.le_refl _, by omega⟩, fun _ => he, fun j a b => by omega⟩
    · rw [if_neg he]
      refine ⟨⟨by omega, h2⟩, h3, fun j a b => ?_⟩
      by_cases hj : j = n - (d + 1)
      · subst hj
        simpa using he
      · exact h4 j (by omega) b
/-- Both tests of a place are one. -/
theorem bad_eq (out : List St) (n : Nat) (within : Int) (at_ : Nat) (h : at_ < n) : badP out n within at_ = badR out n within at_ := by
  unfold badP badR
  cases hw : wtD out at_ with
  | false => simp
  | true =>
    obtain ⟨⟨h1, h2⟩, h3, h4⟩ := nextE_spec out n (n - (at_ + 1)) (by omega)
    rw [show n - (n - (at_ + 1)) = at_ + 1 by omega] at h1 h4
    by_cases hc : (n : Int) - 1 - (at_ : Int) < within
    · have : ¬ within ≤ (n : Int) - 1 - (at_ : Int) := by omega
      simp [hc, this]
    · have hle : within ≤ (n : Int) - 1 - (at_ : Int) := by omega
      have key : someR out n within at_ = true ↔ ¬ within < (nextE out n (n - (at_ + 1)) : Int) - (at_ : Int) := by
        unfold someR
        rw [List.any_eq_true]
        constructor
        · rintro ⟨k, hk, he⟩
          rw [Bool.and_eq_true, decide_eq_true_eq] at he
          intro hlt
          have := h4 (at_ + (k + 1)) (by omega) (by omega)
          rw [this] at he
          exact absurd he.2 (by simp)
        · intro hlt
          have hnn : nextE out n (n - (at_ + 1)) < n := by omega
          refine ⟨nextE out n (n - (at_ + 1)) - at_ - 1, by rw [List.mem_range]; omega, ?_⟩
          rw [Bool.and_eq_true, decide_eq_true_eq]
          refine ⟨by omega, ?_⟩
          rw [show at_ + (nextE out n (n - (at_ + 1)) - at_ - 1 + 1) = nextE out n (n - (at_ + 1)) by omega]
          exact h3 hnn
      by_cases hs : someR out n within at_ = true
      · have := key.1 hs
        simp [hs, this]
      · have hx : within < (nextE out n (n - (at_ + 1)) : Int) - (at_ : Int) := by
          by_cases hy : within < (nextE out n (n - (at_ + 1)) : Int) - (at_ : Int)
          · exact hy
          · exact absurd (key.2 hy) hs
        simp [hs, hx, hle]
def movesD (out : List St) (n : Nat) (within : Int) : Bool := !(List.range n).any (badR out n within)
end Go.Proofs.Ytdkggdfofmgdlaa.Sp
