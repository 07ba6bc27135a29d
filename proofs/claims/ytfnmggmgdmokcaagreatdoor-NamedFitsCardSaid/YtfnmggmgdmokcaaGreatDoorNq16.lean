/- Merged texts: Co20. -/
import Derived.Test.YtfnmggmgdmokcaaGreatDoorNq15
set_option linter.unusedVariables false
/- A global lock of nodes, a local one of the threads of each: New, as far as it comes: the plain law. -/
namespace Go.Proofs.YtfnmggmgdmokcaaGreatDoor.Co
open Go.RowKit Go.Proofs.YtfnmggmgdmokcaaGreatDoor.Ara Go.Proofs.YtfnmggmgdmokcaaGreatDoor.Lok Go.Proofs.YtfnmggmgdmokcaaGreatDoor.Fl

def OkN (c : Nw) (K : Nat) : Prop := mayK c.kg c.NN c.par ∧ ∀ n, n < K → mayK c.kl (c.mt n) c.par
theorem OkN.le {c : Nw} {K k : Nat} (h : OkN c K) (hk : k ≤ K) : OkN c k := ⟨h.1, fun n hn => h.2 n (by omega)⟩
section
variable {c : Nw} {K : Nat} (O : OkN c K) {σ0 : Ar} (hr : c.tN σ0.t K ≤ σ0.ws.length)
include O hr
theorem σ_grK : ∀ n, n ≤ K → Gr (n + 1) σ0 (c.σN σ0 n) ∧ (c.σN σ0 n).t = c.tN σ0.t n
  | 0, _ => by
    have h0 := c.tN_le σ0.t (Nat.zero_le K)
    have e : c.tN σ0.t 0 = σ0.t + sizeK c.kg c.NN c.par := rfl
    have := tak_gr O.1 (σ := σ0) (by omega)
    exact ⟨this.1, this.2⟩
  | n + 1, hn => by
    obtain ⟨g, ht⟩ := σ_grK n (by omega)
    have h0 := c.tN_le σ0.t hn
    have e : c.tN σ0.t (n + 1) = c.tN σ0.t n + sizeK c.kl (c.mt n) c.par + 1 := rfl
    have hlen := g.len
    obtain ⟨g1, ht1⟩ := tak_gr (O.2 n (by omega)) (σ := c.σN σ0 n) (by omega)
    have hlen1 := g1.len
    have g2 := gr_more (σ := (tak c.kl (c.mt n) c.par (c.σN σ0 n)).1) (m := 1) (by omega)
    refine ⟨(g.trans (g1.trans g2)).le (by omega), ?_⟩
    show (tak c.kl (c.mt n) c.par (c.σN σ0 n)).1.t + 1 = _
    omega
theorem roomK {n : Nat} (hn : n < K) : (c.σN σ0 n).t + sizeK c.kl (c.mt n) c.par + 1 ≤ (c.σN σ0 n).ws.length := by
  obtain ⟨g, ht⟩ := σ_grK O hr n (by omega)
  have h0 := c.tN_le σ0.t (show n + 1 ≤ K from hn)
  have e : c.tN σ0.t (n + 1) = c.tN σ0.t n + sizeK c.kl (c.mt n) c.par + 1 := rfl
  rw [g.len]
  omega
omit O in
theorem room0K : σ0.t + sizeK c.kg c.NN c.par ≤ σ0.ws.length := by
  have h0 := c.tN_le σ0.t (Nat.zero_le K)
  have e : c.tN σ0.t 0 = σ0.t + sizeK c.kg c.NN c.par := rfl
  omega
end
end Go.Proofs.YtfnmggmgdmokcaaGreatDoor.Co

