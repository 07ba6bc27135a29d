/- Walks of package fair and its reference: Fair, the reference's Fair and Least. -/
import Derived.Test.YtmldkfmebplblaaFair2
namespace Go.Proofs.Ytmldkfmebplblaa.Fai
open Go.RowKit

theorem frame44 {a : Act} (h : a.tmps.size = 44) (hd : a.defers = []) : ∃ u : Nat → Value, a = { tmps := #[u 0, u 1, u 2, u 3, u 4, u 5, u 6, u 7, u 8, u 9, u 10, u 11, u 12, u 13, u 14, u 15, u 16, u 17, u 18, u 19, u 20, u 21, u 22, u 23, u 24, u 25, u 26, u 27, u 28, u 29, u 30, u 31, u 32, u 33, u 34, u 35, u 36, u 37, u 38, u 39, u 40, u 41, u 42, u 43], defers := [] } ∧ ∀ n, a.tmps.getD n undef = u n := by
  refine ⟨fun n => a.tmps.getD n undef, ?_, fun _ => rfl⟩
  have h1 := arr_lit a.tmps h
  cases a with
  | mk t d =>
    simp only at hd h1
    subst hd
    congr 1

def fairB (l : List Int) (t k : Int) : Bool := decide (som t = 0) || decide ((longest (som t) l : Int) + 1 ≤ k)
theorem fairB_pos {l : List Int} {t k : Int} (h : 1 ≤ k) : fairB l t k = decide ((longest (som t) l : Int) + 1 ≤ k) := by
  unfold fairB
  by_cases h0 : som t = 0
  · rw [h0, longest_zero]
    simp
    omega
  · simp [h0]

theorem fair_any (l : List Int) (A : Option Addr) (cap : Nat) (t k : Int) (w : World) (hm : l.length ≤ 65536) (hs : Sl w w.heap.size A (l.flatMap decI)) :
    Calls Try.prog 35 #[.slice A l.length cap, .int .i64 t, .int .i64 k] w fun e w' => e = .returned (.bool (fairB l t k)) ∧ Below w.heap.size w w' := by
  by_cases h0 : som t = 0
  · have hn := Lib.hid (show fairB l t k = true by simp [fairB, h0])
    have hb := nbeq h0
    have hc := fun W => some_any t W
    rw [h0] at hc
    have HC := Lib.hid hc
    clear hc h0 hb
    go_enter Try.func35, Try.ntmps35
    go_wp2_with fail
    refine (HC.out _).mono ?_
    rintro e wx ⟨rfl, hwx⟩
    obtain rfl := hwx.symm
    go_wp2_with fail
    go_ret
    exact ⟨by rw [hn.out]; rfl, Below.refl _ _⟩
  · have hn := Lib.hid (show fairB l t k = decide ((longest (som t) l : Int) + 1 ≤ k) by simp [fairB, h0])
    have hb : ((som t : Int) == 0) = false := ibeq_no (by omega)
    clear h0
    go_enter Try.func35, Try.ntmps35
    go_wp2_with fail
    refine (some_any t _).mono ?_
    rintro e wx ⟨rfl, hwx⟩
    obtain rfl := hwx.symm
    go_wp2_with fail
    refine (least_any l A cap t _ hm hs).mono ?_
    rintro e w1 ⟨rfl, hb1⟩
    go_wp2_with fail
    go_ret
    exact ⟨by rw [hn.out]; rfl, hb1⟩

def win (l : List Int) (a K : Nat) : List Int := (l.drop a).take K
theorem win_len {l : List Int} {a K : Nat} (h : a + K ≤ l.length) : (win l a K).length = K := by simp [win]; omega
theorem among_has {l : List Int} {a K t : Nat} (_h : a + K ≤ l.length) : among (win l a K) t = true ↔ Has l t a K := by
  unfold among win
  rw [decide_eq_true_iff]
  constructor
  · intro h
    obtain ⟨j, hj, e⟩ := List.getElem_of_mem h
    rw [List.length_take, List.length_drop] at hj
    refine ⟨a + j, by omega, by omega, ?_⟩
    rw [List.getElem_take, List.getElem_drop] at e
    rw [List.getElem?_eq_getElem (by omega), e]
  · rintro ⟨j, h1, h2, h3⟩
    obtain ⟨hl, e⟩ := List.getElem?_eq_some_iff.1 h3
    refine List.mem_iff_getElem.2 ⟨j - a, by rw [List.length_take, List.length_drop]; omega, ?_⟩
    rw [List.getElem_take, List.getElem_drop]
    rw [← e]
    congr 1
    omega
theorem win_flat {l : List Int} {a K : Nat} : (win l a K).flatMap decI = ((l.flatMap decI).drop a).take K := by
  have : ∀ l : List Int, l.flatMap decI = l.map (Value.int .i64) := by
    intro l
    induction l with
    | nil => rfl
    | cons x l ih => simp [decI, ih]
  rw [this, this, win, List.map_take, List.map_drop]
theorem win_sl {w : World} {B b off : Nat} {l : List Int} {a K : Nat} (hs : Sl w B (some ⟨b, off, none⟩) (l.flatMap decI)) : Sl w B (some ⟨b, off + a, none⟩) ((win l a K).flatMap decI) := by
  rcases hs with h | ⟨b', off', hA, hb, hc⟩
  · left
    rw [win_flat, h]; simp
  · right
    injection hA with hA
    injection hA with h1 h2
    subst h1 h2
    refine ⟨b, off + a, rfl, hb, fun j hj => ?_⟩
    have hj2 : a + j < (l.flatMap decI).length := by
      rw [win_flat, List.length_take, List.length_drop] at hj
      omega
    have h := hc (a + j) hj2
    rw [Nat.add_assoc, h]
    congr 1
    simp only [win_flat, List.getElem_take, List.getElem_drop]

theorem among_win (l : List Int) (b off c : Nat) (a K : Nat) (t : Nat) (B : Nat) (w : World) (hm : l.length ≤ 65536) (hs : Sl w B (some ⟨b, off, none⟩) (l.flatMap decI)) (h : a + K ≤ l.length) :
    Calls Try.prog 63 #[.slice (some ⟨b, off + a, none⟩) K c, .int .i64 t] w fun e w' => e = .returned (.bool (among (win l a K) t)) ∧ w' = w := by
  have := among_any (win l a K) (some ⟨b, off + a, none⟩) c t B w (by rw [win_len h]; omega) (win_sl hs)
  rw [win_len h] at this
  exact this

def RFairJ (n K : Nat) (l : List Int) (A : Option Addr) (cap : Nat) (w : World) (a : Act) (w' : World) : Prop :=
  a.tmps.size = 44 ∧ a.defers = [] ∧ a.tmps.getD 0 undef = .slice A l.length cap ∧ a.tmps.getD 2 undef = .int .i64 K ∧ a.tmps.getD 7 undef = .int .i64 n ∧
    ∃ j : Nat, a.tmps.getD 8 undef = .int .i64 j ∧ j ≤ l.length ∧ w' = w ∧ ∀ a, a < j → ∀ t, t < n → Has l t a K
def RFairJ2 (n K j : Nat) (l : List Int) (A : Option Addr) (cap : Nat) (w : World) (a : Act) (w' : World) : Prop :=
  a.tmps.size = 44 ∧ a.defers = [] ∧ a.tmps.getD 0 undef = .slice A l.length cap ∧ a.tmps.getD 2 undef = .int .i64 K ∧ a.tmps.getD 7 undef = .int .i64 n ∧ a.tmps.getD 8 undef = .int .i64 j ∧
    ∃ t : Nat, a.tmps.getD 9 undef = .int .i64 t ∧ t ≤ n ∧ w' = w ∧ ∀ s, s < t → Has l s j K

set_option maxHeartbeats 4000000 in
set_option maxRecDepth 100000 in
theorem rfair_any (l : List Int) (A : Option Addr) (cap : Nat) (t k : Int) (B : Nat) (w : World) (hm : l.length ≤ 65536) (hcap : l.length ≤ cap) (hcm : cap ≤ maxLen) (hk64 : isI64 k) (hs : Sl w B A (l.flatMap decI)) :
    Calls Try.prog 36 #[.slice A l.length cap, .int .i64 t, .int .i64 k] w fun e w' => e = .returned (.bool (fairB l t k)) ∧ w' = w := by
  obtain ⟨hk1, hk2⟩ := hk64
  have hle := som_le t
  by_cases h : k < 1
  · have hn := Lib.hid (show fairB l t k = ((som t : Int) == 0) by
      unfold fairB
      by_cases h0 : som t = 0
      · simp [h0]
      · have h1 : ((som t : Int) == 0) = false := ibeq_no (by omega)
        simp [h0, h1]
        omega)
    go_enter Try.func36, Try.ntmps36
    go_wp2_with fail
    refine (rsome_any t _).mono ?_
    rintro e wx ⟨rfl, hwx⟩
    obtain rfl := hwx.symm
    go_wp2_with fail
    go_ret
    exact ⟨by rw [hn.out]; rfl, rfl⟩
  · obtain ⟨K, rfl⟩ := Int.eq_ofNat_of_zero_le (show 0 ≤ k by omega)
    have hK : 1 ≤ K := by omega
    have hlg := longest_lt (som t) l K hK
    have hfb : fairB l t (K : Int) = decide (longest (som t) l < K) := by
      rw [fairB_pos (by omega)]
      congr 1
      exact propext (by omega)
    have HB := Lib.hid hfb
    have HS := Lib.hid (fun W => rsome_any t W)
    clear hfb
    generalize som t = n at *
    have HG := Lib.hid hlg
    clear hlg
    go_enter Try.func36, Try.ntmps36
    go_wp2_with fail
    refine (HS.out _).mono ?_
    rintro e wx ⟨rfl, hwx⟩
    obtain rfl := hwx.symm
    go_wp2_with fail
    refine wp_loop (RFairJ n K l A cap w) (fun a' _ => l.length - (intOf (a'.tmps.getD 8 undef)).toNat) ?_ ?_
    · exact ⟨rfl, rfl, rfl, rfl, rfl, 0, rfl, Nat.zero_le _, rfl, fun a h => absurd h (by omega)⟩
    · rintro a' w' ⟨hsz, hdf, s0, s2, s7, j, s8, hj, rfl, hall⟩
      obtain ⟨u, rfl, hu⟩ := frame44 hsz hdf
      rw [hu] at s0 s2 s7 s8
      simp only [s0, s2, s7, s8]
      clear hsz hdf s0 s2 s7 s8 hu
      have HA := Lib.hid hall
      clear hall
      by_cases hin : j < l.length ∧ j + K ≤ l.length
      · obtain ⟨hlt, hjk⟩ := hin
        have i1 : (K : Int) ≤ (l.length : Int) - (j : Int) := by omega
        go_wp2_with fail
        refine wp_loop (RFairJ2 n K j l A cap w') (fun a' _ => n - (intOf (a'.tmps.getD 9 undef)).toNat) ?_ ?_
        · exact ⟨rfl, rfl, rfl, rfl, rfl, rfl, 0, rfl, Nat.zero_le _, rfl, fun s h => absurd h (by omega)⟩
        · rintro a' w'' ⟨hsz, hdf, s0, s2, s7, s8, q, s9, hq, rfl, hall⟩
          obtain ⟨u, rfl, hu⟩ := frame44 hsz hdf
          rw [hu] at s0 s2 s7 s8 s9
          simp only [s0, s2, s7, s8, s9]
          clear hsz hdf s0 s2 s7 s8 s9 hu
          have HI := Lib.hid hall
          clear hall
          by_cases hqn : q < n
          · obtain ⟨b, off, rfl, hbb, _⟩ := Sl_at (k := 1) (fun _ => rfl) (by omega) hs (by omega)
            have hca : ¬ cap = j := by omega
            have hcm2 : cap ≤ 9223372036854775807 := by simpa only [maxLen] using hcm
            have HX := Lib.hid (@among_has l j K q hjk)
            have hno := Lib.hid (show among (win l j K) q = false → fairB l t (K : Int) = false by
              intro hf
              rw [HB.out]
              simp only [decide_eq_false_iff_not]
              intro hlt2
              have := HX.out.2 (HG.out.1 hlt2 j hjk q hqn)
              rw [hf] at this
              cases this)
            go_wp2_with fail
            refine (among_win l b off _ j K q B _ hm hs hjk).mono ?_
            rintro e wy ⟨rfl, hwy⟩
            obtain rfl := hwy.symm
            cases ham : among (win l j K) q
            · have hno2 := Lib.hid (hno.out ham)
              go_wp2_with fail
              go_ret
              exact ⟨by rw [hno2.out]; rfl, rfl⟩
            · have hyes := Lib.hid (HX.out.1 ham)
              go_wp2_with fail
              exact ⟨⟨rfl, rfl, rfl, rfl, rfl, rfl, q + 1, rfl, hqn, rfl, fun s hs2 => by
                by_cases h1 : s < q
                · exact HI.out s h1
                · obtain rfl : s = q := by omega
                  exact hyes.out⟩, by simp [intOf]; omega⟩
          · go_wp2_with fail
            exact ⟨⟨rfl, rfl, rfl, rfl, rfl, j + 1, rfl, hlt, rfl, fun a h t ht => by
              by_cases h1 : a < j
              · exact HA.out a h1 t ht
              · obtain rfl : a = j := by omega
                exact HI.out t (by omega)⟩, by simp [intOf]; omega⟩
      · have hyes := Lib.hid (show fairB l t (K : Int) = true by
          rw [HB.out]
          simp only [decide_eq_true_eq]
          refine HG.out.2 fun a ha t ht => HA.out a (by omega) t ht)
        by_cases hlt : j < l.length
        · have i1 : ¬ (K : Int) ≤ (l.length : Int) - (j : Int) := by omega
          clear hin
          go_wp2_with fail
          go_ret
          exact ⟨by rw [hyes.out]; rfl, rfl⟩
        · clear hin
          go_wp2_with fail
          go_ret
          exact ⟨by rw [hyes.out]; rfl, rfl⟩

theorem rleast_any (l : List Int) (A : Option Addr) (cap : Nat) (t : Int) (B : Nat) (w : World) (hm : l.length ≤ 65536) (hcap : l.length ≤ cap) (hcm : cap ≤ maxLen) (hs : Sl w B A (l.flatMap decI)) :
    Calls Try.prog 38 #[.slice A l.length cap, .int .i64 t] w fun e w' => e = .returned (.int .i64 (longest (som t) l + 1)) ∧ w' = w := by
  have hll := longest_le (som t) l
  have hfb := fun (k : Int) (h : 1 ≤ k) => @fairB_pos l t k h
  have HB := Lib.hid hfb
  clear hfb
  go_enter Try.func38, Try.ntmps38
  go_wp2
  go_loop [5] (fun i => ∃ k : Nat, k ≤ l.length ∧ i = .int .i64 (k + 1) ∧ k ≤ longest (som t) l) (fun i => l.length + 1 - (intOf i).toNat)
  case atStart => exact ⟨0, by omega, rfl, by omega⟩
  case round =>
    obtain ⟨k, hk, rfl, hkl⟩ := hrel
    by_cases hlt : k < l.length
    · have ilt : (k : Int) + 1 ≤ (l.length : Int) := by omega
      by_cases hf : longest (som t) l ≤ k
      · have hb := Lib.hid (show fairB l t ((k : Int) + 1) = true by rw [HB.out _ (by omega)]; simp; omega)
        have he := Lib.hid (show ((longest (som t) l : Int) + 1) = (k : Int) + 1 by omega)
        go_wp2_with fail
        refine (rfair_any l A cap t _ B _ hm hcap hcm ⟨by omega, by omega⟩ hs).mono ?_
        rw [hb.out]
        rintro e wy ⟨rfl, hwy⟩
        obtain rfl := hwy.symm
        go_wp2_with fail
        go_ret
        exact ⟨by rw [he.out]; rfl, rfl⟩
      · have hb := Lib.hid (show fairB l t ((k : Int) + 1) = false by rw [HB.out _ (by omega)]; simp; omega)
        go_wp2_with fail
        refine (rfair_any l A cap t _ B _ hm hcap hcm ⟨by omega, by omega⟩ hs).mono ?_
        rw [hb.out]
        rintro e wy ⟨rfl, hwy⟩
        obtain rfl := hwy.symm
        go_wp2_with fail
        go_round
        case rel => exact ⟨k + 1, by omega, by go_num, by omega⟩
        case measure => simp [intOf]; omega
    · have he := Lib.hid (show ((longest (som t) l : Int) + 1) = (l.length : Int) + 1 by omega)
      have ilt : ¬ (k : Int) + 1 ≤ (l.length : Int) := by omega
      go_wp2_with fail
      go_ret
      exact ⟨by rw [he.out]; rfl, rfl⟩
end Go.Proofs.Ytmldkfmebplblaa.Fai
