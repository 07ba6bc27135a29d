/- make of a slice whose elements have several cells. -/
import Derived.Test.YtdkggdfofmgdlaaHeap
import Derived.Laws.MakeOwn
namespace Go.Proofs.Ytdkggdfofmgdlaa
open Go.RowKit

theorem made_flat (z : Array Value) (n : Nat) : madeCells z (n * z.size) = ((List.replicate n z.toList).flatten).toArray := by
  apply Array.ext
  · simp [madeCells]
  · intro i h1 h2
    have hi : i < n * z.size := by simpa [madeCells] using h1
    have hz : 0 < z.size := Nat.pos_of_ne_zero (fun h => by rw [h] at hi; simp at hi)
    have hm : i % z.size < z.size := Nat.mod_lt _ hz
    have key : ∀ n i, i < n * z.size → ((List.replicate n z.toList).flatten)[i]? = z[i % z.size]? := by
      intro n
      induction n with
      | zero => intro i hi; simp at hi
      | succ n ih =>
        intro i hi
        rw [List.replicate_succ, List.flatten_cons]
        by_cases hlt : i < z.size
        · rw [List.getElem?_append_left (by simpa using hlt), Nat.mod_eq_of_lt hlt]
          simp
        · rw [List.getElem?_append_right (by simp; omega), ih _ (by rw [Nat.add_mul] at hi; simp; omega)]
          simp only [Array.length_toList]
          rw [← Nat.mod_eq_sub_mod (by omega)]
    have h3 := key n i hi
    rw [List.getElem?_eq_getElem (by simpa using h2), Array.getElem?_eq_getElem hm] at h3
    simp only [madeCells, Array.getElem_map, Array.getElem_range, List.getElem_toArray]
    rw [Option.some.inj h3]
    simp [hm]

theorem run_make_rows {P : Program} (t e : TypeId) (z : Value) (size bytes : Nat) (ht : P.underlying t = some (.slice e)) (hinfo : (P.info? e).map (fun i => (i.zero, i.size, i.bytes)) = some (some z, size, bytes)) (hz1 : z.cells.size = size)
    (kl kc : IntKind) (n : Nat) (hbytes : bytes * n ≤ 281474976710656) (h63 : n ≤ 9223372036854775807) (w : World) :
    (Instr.makeSlice t (.int kl (n : Int)) (.int kc (n : Int))).run P w = .ok (.slice (some ⟨w.heap.size, 0, none⟩) n n) (w.alloc (.cells ((List.replicate n z.cells.toList).flatten).toArray e)) := by
  obtain ⟨i, hi, hzz⟩ := Option.map_eq_some_iff.1 hinfo
  simp only [Prod.mk.injEq] at hzz
  obtain ⟨hz, hs, hb⟩ := hzz
  have hb' : (i.bytes : Int) * (n : Int) ≤ 281474976710656 := by
    have h : ((i.bytes * n : Nat) : Int) ≤ 281474976710656 := by rw [hb]; omega
    rwa [Int.natCast_mul] at h
  have hr := run_make (P := P) w t e i z ht hi hz kl kc n n (by omega) (Int.le_refl _) hb' (by omega)
  simp only [Int.toNat_natCast, hs, ← hz1, made_flat] at hr
  exact hr
end Go.Proofs.Ytdkggdfofmgdlaa
