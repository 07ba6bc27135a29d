/- Walks of layer 12's reference: Of. -/
import Derived.Test.YtdkggdfofmgdlaaSp5
namespace Go.Proofs.Ytdkggdfofmgdlaa.Sp
open Go.RowKit
def dSt (s : St) : List Value := [.int .i64 s.th, .bool s.rd, .int .i64 s.ask, .int .i64 s.en, .int .i64 s.ex, .int .i64 s.re, .int .i64 s.ct]
def s0 : St := ⟨0, false, 0, 0, 0, 0, 0⟩
theorem infoSt : (Try.prog.info? 38).map (fun i => (i.zero, i.size, i.bytes)) = some (some (.agg #[.int .i64 0, .bool false, .int .i64 0, .int .i64 0, .int .i64 0, .int .i64 0, .int .i64 0]), 7, 56) := by kernel_rfl
theorem sl_st {w : World} {Bd : Nat} {A : Option Addr} {l : List St} (h : Sl w Bd A (l.flatMap dSt)) (hk : 0 < l.length) : ∃ b off, A = some ⟨b, off, none⟩ ∧ b < Bd ∧ ∀ j, j < l.length → w.cell? ⟨b, off + j * 7, none⟩ = some (.int .i64 (l.getD j s0).th) ∧ w.cell? ⟨b, off + j * 7 + 2, none⟩ = some (.int .i64 (l.getD j s0).ask) ∧ w.cell? ⟨b, off + j * 7 + 3, none⟩ = some (.int .i64 (l.getD j s0).en) ∧ w.cell? ⟨b, off + j * 7 + 5, none⟩ = some (.int .i64 (l.getD j s0).re) := by
  obtain ⟨b, off, rfl, hb, hc⟩ := Sl_at (dec := dSt) (k := 7) (fun _ => rfl) (by omega) h hk
  refine ⟨b, off, rfl, hb, fun j hj => ?_⟩
  have h0 := hc j hj 0 (by omega)
  have h2 := hc j hj 2 (by omega)
  have h3 := hc j hj 3 (by omega)
  have h5 := hc j hj 5 (by omega)
  simp only [dSt, List.getElem?_cons_zero, List.getElem?_cons_succ, Nat.add_zero, ← Nat.add_assoc] at h0 h2 h3 h5
  have e : l.getD j s0 = l[j] := by rw [List.getD_eq_getElem?_getD, List.getElem?_eq_getElem hj]; rfl
  rw [e]
  exact ⟨h0, h2, h3, h5⟩
theorem outR_len (l : List E) : ∀ k, (outR l k).length ≤ k
  | 0 => Nat.le_refl _
  | k + 1 => by
    have := outR_len l k
    unfold outR stepR
    simp only
    split
    · rw [List.length_append, List.length_singleton]; omega
    · omega
end Go.Proofs.Ytdkggdfofmgdlaa.Sp
