/- The law FairRounds: its walk. -/
import Derived.Test.YtmldkfmebplblaaFair7
namespace Go.Proofs.Ytmldkfmebplblaa.Fai
open Go.RowKit

theorem same_self (l : List Int) (A C : Option Addr) (c1 c2 : Nat) (w : World) (hm : l.length ≤ 9223372036854775807) (hs : Sl w w.heap.size A (l.flatMap decI)) (ht : Sl w w.heap.size C (l.flatMap decI)) :
    Calls Try.prog 43 #[.slice A l.length c1, .slice C l.length c2] w fun e w' => e = .returned (.bool true) ∧ Below w.heap.size w w' := by
  have := same_any l l A C c1 c2 w hm hm hs ht
  simpa using this

theorem fair_robin {t r : Int} {k : Int} (h1 : 1 ≤ k) (h2 : (som t : Int) ≤ k) : fairB (robin t r) t k = true := by
  rw [fairB_pos h1, decide_eq_true_eq]
  by_cases h0 : som t = 0
  · rw [h0, longest_zero]; omega
  · have := (longest_lt (som t) (robin t r) (som t) (by omega)).2 (robin_fair (by omega) _)
    omega
theorem fair_rounds {t : Int} {how : List Int} {k : Int} (h1 : 1 ≤ k) (h2 : 2 * (som t : Int) - 1 ≤ k) : fairB (roundsTo (som t) how []) t k = true := by
  rw [fairB_pos h1, decide_eq_true_eq]
  by_cases h0 : som t = 0
  · rw [h0, longest_zero]; omega
  · have := (longest_lt (som t) (roundsTo (som t) how []) (2 * som t - 1) (by omega)).2 (rows_fair (by omega) (rows_to how [] ⟨0, by simp, by omega⟩))
    omega

set_option maxHeartbeats 4000000 in
theorem rounds_walk (t r : Int) (how : List Int) (A : Option Addr) (cap : Nat) (w : World) (hr64 : isI64 r) (hc : how.length ≤ cap) (hm : cap ≤ maxLen) (h64 : ∀ x ∈ how, isI64 x) (hs : Sl w w.heap.size A (how.flatMap decI)) :
    Calls Try.prog 9 #[.int .i64 t, .int .i64 r, .slice A how.length cap] w fun e w' => e = .returned (.bool true) ∧ Below w.heap.size w w' := by
  have hm3 : how.length ≤ 9223372036854775807 := by simp only [maxLen] at hm; omega
  have H64 := Lib.hid h64
  have HR64 := Lib.hid hr64
  clear h64 hr64
  by_cases hle : how.length ≤ 200
  · have i1 : ¬ (200 : Int) < (how.length : Int) := by omega
    have hn := som_le t
    have F1 := Lib.hid (fun (k : Int) h1 h2 => @fair_robin t r k h1 h2)
    have F2 := Lib.hid (fun (k : Int) h1 h2 => @fair_rounds t how k h1 h2)
    have A1 := Lib.hid (fun W => robin_sl t r W)
    have A2 := Lib.hid (fun W => rrobin_sl t r W HR64.out)
    have A3 := Lib.hid (fun W A h => rounds_sl t how A cap W (by omega) H64.out h)
    have A4 := Lib.hid (fun W A h => rrounds_sl t how A cap W (by omega) H64.out h)
    have A5 := Lib.hid (fun W => rsome_any t W)
    have la : (robin t r).length ≤ 4000 := roundsTo_len _ _ _ (by simp)
    have lb : (roundsTo (som t) how []).length ≤ 4000 := roundsTo_len _ _ _ (by simp)
    generalize robin t r = ra at *
    generalize roundsTo (som t) how [] = rb at *
    generalize som t = n at *
    have j1 : ¬ (4000 : Int) < (ra.length : Int) := by omega
    have j2 : ¬ (4000 : Int) < (rb.length : Int) := by omega
    go_enter Try.func9, Try.ntmps9
    go_wp2_with fail
    refine (A1.out _).mono ?_
    rintro e w1 ⟨V1, d1, rfl, _, _, M1, hb⟩
    have L1 := hs.step hb
    have H1 := hb
    clear hb
    go_wp2_with fail
    refine (A3.out _ _ L1).mono ?_
    rintro e w2 ⟨V2, d2, rfl, _, _, P2, hb⟩
    have L2 := L1.step hb
    have M2 := M1.step hb
    have H2 := below_chain H1 hb (Nat.le_refl _)
    clear hb L1 M1 H1
    go_wp2_with fail
    refine (A2.out _).mono ?_
    rintro e w3 ⟨V3, d3, rfl, _, _, N3, hb⟩
    have L3 := L2.step hb
    have M3 := M2.step hb
    have P3 := P2.step hb
    have H3 := below_chain H2 hb (Nat.le_refl _)
    clear hb L2 M2 P2 H2
    go_wp2_with fail
    refine (same_self ra _ _ d1 d3 _ (by omega) M3 N3).mono ?_
    rintro e w4 ⟨rfl, hb⟩
    have L4 := L3.step hb
    have M4 := M3.step hb
    have P4 := P3.step hb
    have H4 := below_chain H3 hb (Nat.le_refl _)
    clear hb L3 M3 P3 H3 N3
    go_wp2_with fail
    refine (A4.out _ _ L4).mono ?_
    rintro e w5 ⟨V5, d5, rfl, _, _, N5, hb⟩
    have M5 := M4.step hb
    have P5 := P4.step hb
    have H5 := below_chain H4 hb (Nat.le_refl _)
    clear hb L4 M4 P4 H4
    go_wp2_with fail
    refine (same_self rb _ _ d2 d5 _ (by omega) P5 N5).mono ?_
    rintro e w6 ⟨rfl, hb⟩
    have M6 := M5.step hb
    have P6 := P5.step hb
    have H6 := below_chain H5 hb (Nat.le_refl _)
    clear hb M5 P5 H5 N5
    go_wp2_with fail
    refine (A5.out _).mono ?_
    rintro e w7 ⟨rfl, hw7⟩
    obtain rfl := hw7.symm
    by_cases hn0 : n = 0
    · subst hn0
      have C1 := fun W (h : Sl W W.heap.size V1 (ra.flatMap decI)) => fair_any ra V1 d1 t (1) W (by omega) h
      have C2 := fun W (h : Sl W W.heap.size V2 (rb.flatMap decI)) => fair_any rb V2 d2 t (1) W (by omega) h
      rw [F1.out (1) (by omega) (by omega)] at C1
      rw [F2.out (1) (by omega) (by omega)] at C2
      have D1 := Lib.hid C1
      have D2 := Lib.hid C2
      clear C1 C2
      go_wp2_with fail
      refine (D1.out _ M6).mono ?_
      rintro e w8 ⟨rfl, hb⟩
      have P8 := P6.step hb
      have H8 := below_chain H6 hb (Nat.le_refl _)
      clear hb
      go_wp2_with fail
      refine (D2.out _ P8).mono ?_
      rintro e w9 ⟨rfl, hb⟩
      have H9 := below_chain H8 hb (Nat.le_refl _)
      clear hb
      go_wp2_with fail
      refine (awake_any _).mono ?_
      rintro e wa ⟨rfl, hb⟩
      go_wp2_with fail
      go_ret
      exact ⟨rfl, below_chain H9 hb (Nat.le_refl _)⟩
    · have hn1 : 1 ≤ (n : Int) := by omega
      have hn2 : 1 ≤ 2 * (n : Int) - 1 := by omega
      by_cases hn3 : n = 1
      · subst hn3
        have C1 := fun W (h : Sl W W.heap.size V1 (ra.flatMap decI)) => fair_any ra V1 d1 t (1) W (by omega) h
        have C2 := fun W (h : Sl W W.heap.size V2 (rb.flatMap decI)) => fair_any rb V2 d2 t (1) W (by omega) h
        rw [F1.out (1) (by omega) (by omega)] at C1
        rw [F2.out (1) (by omega) (by omega)] at C2
        have D1 := Lib.hid C1
        have D2 := Lib.hid C2
        clear C1 C2
        go_wp2_with fail
        refine (D1.out _ M6).mono ?_
        rintro e w8 ⟨rfl, hb⟩
        have P8 := P6.step hb
        have H8 := below_chain H6 hb (Nat.le_refl _)
        clear hb
        go_wp2_with fail
        refine (D2.out _ P8).mono ?_
        rintro e w9 ⟨rfl, hb⟩
        have H9 := below_chain H8 hb (Nat.le_refl _)
        clear hb
        go_wp2_with fail
        refine (awake_any _).mono ?_
        rintro e wa ⟨rfl, hb⟩
        go_wp2_with fail
        go_ret
        exact ⟨rfl, below_chain H9 hb (Nat.le_refl _)⟩
      · have hn4 : 1 < (n : Int) := by omega
        have hn5 : 1 < n := by omega
        have hn6 : 1 < 2 * (n : Int) - 1 := by omega
        have C1 := fun W (h : Sl W W.heap.size V1 (ra.flatMap decI)) => fair_any ra V1 d1 t ((n : Int)) W (by omega) h
        have C2 := fun W (h : Sl W W.heap.size V2 (rb.flatMap decI)) => fair_any rb V2 d2 t (2 * (n : Int) - 1) W (by omega) h
        rw [F1.out ((n : Int)) (by omega) (by omega)] at C1
        rw [F2.out (2 * (n : Int) - 1) (by omega) (by omega)] at C2
        have D1 := Lib.hid C1
        have D2 := Lib.hid C2
        clear C1 C2
        go_wp2_with fail
        refine (D1.out _ M6).mono ?_
        rintro e w8 ⟨rfl, hb⟩
        have P8 := P6.step hb
        have H8 := below_chain H6 hb (Nat.le_refl _)
        clear hb
        go_wp2_with fail
        refine (D2.out _ P8).mono ?_
        rintro e w9 ⟨rfl, hb⟩
        have H9 := below_chain H8 hb (Nat.le_refl _)
        clear hb
        go_wp2_with fail
        refine (awake_any _).mono ?_
        rintro e wa ⟨rfl, hb⟩
        go_wp2_with fail
        go_ret
        exact ⟨rfl, below_chain H9 hb (Nat.le_refl _)⟩
  · have i1 : (200 : Int) < (how.length : Int) := by omega
    go_enter Try.func9, Try.ntmps9
    go_wp2_with (go_at_call 34; refine (awake_any _).mono ?_; rintro e w' ⟨rfl, hb⟩)
    go_ret
    exact ⟨rfl, hb⟩

theorem reads_int {H : Type} {enc : TypeId × Value → H} : Reads enc Try.prog 3 decI isI64 := reads_i64 Try.underlying3
theorem rounds_law (w : World) (t : Int) (_ht : isI64 t) (r : Int) (hr : isI64 r) (A : Option Addr) (cap : Nat) (how : List Int) (hc : how.length ≤ cap) (hm : cap ≤ maxLen) (h64 : ∀ x ∈ how, isI64 x) (hs : Sl w w.heap.size A (how.flatMap decI)) :
    Calls Try.prog 9 #[.int .i64 t, .int .i64 r, .slice A how.length cap] w fun e w' => e = .returned (.bool true) ∧ Below w.heap.size w w' :=
  rounds_walk t r how A cap w hr hc hm h64 hs
end Go.Proofs.Ytmldkfmebplblaa.Fai
