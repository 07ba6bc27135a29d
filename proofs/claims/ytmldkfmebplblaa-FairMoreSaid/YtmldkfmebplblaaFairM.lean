/- The law FairMore: its walk. -/
import Derived.Test.YtmldkfmebplblaaFair9
namespace Go.Proofs.Ytmldkfmebplblaa.Fai
open Go.RowKit

theorem frame75 {a : Act} (h : a.tmps.size = 75) (hd : a.defers = []) : ∃ u : Nat → Value, a = { tmps := #[u 0, u 1, u 2, u 3, u 4, u 5, u 6, u 7, u 8, u 9, u 10, u 11, u 12, u 13, u 14, u 15, u 16, u 17, u 18, u 19, u 20, u 21, u 22, u 23, u 24, u 25, u 26, u 27, u 28, u 29, u 30, u 31, u 32, u 33, u 34, u 35, u 36, u 37, u 38, u 39, u 40, u 41, u 42, u 43, u 44, u 45, u 46, u 47, u 48, u 49, u 50, u 51, u 52, u 53, u 54, u 55, u 56, u 57, u 58, u 59, u 60, u 61, u 62, u 63, u 64, u 65, u 66, u 67, u 68, u 69, u 70, u 71, u 72, u 73, u 74], defers := [] } ∧ ∀ n, a.tmps.getD n undef = u n := by
  refine ⟨fun n => a.tmps.getD n undef, ?_, fun _ => rfl⟩
  have h1 := arr_lit a.tmps h
  cases a with
  | mk t d =>
    simp only at hd h1
    subst hd
    congr 1

theorem ownTo_mono (l : List Int) (t to : Int) (a j : Nat) : ownTo l t to a ≤ ownTo l t to (a + j) := by
  induction j with
  | zero => exact Nat.le_refl _
  | succ j ih => rw [← Nat.add_assoc, ownTo]; omega
theorem ownTo_hit (l : List Int) (t to : Int) (a b j : Nat) (h1 : a ≤ j) (h2 : j < b) (h3 : l[j]? = some t) (h4 : (j : Int) < to) : ownTo l t to a + 1 ≤ ownTo l t to b := by
  have e1 := ownTo_mono l t to a (j - a)
  rw [show a + (j - a) = j by omega] at e1
  have e2 := ownTo_mono l t to (j + 1) (b - (j + 1))
  rw [show j + 1 + (b - (j + 1)) = b by omega] at e2
  have e3 : ownTo l t to (j + 1) = ownTo l t to j + 1 := by rw [ownTo, h3]; simp [h4]
  omega
theorem own_ge {l : List Int} {n K t : Nat} (hf : FairBy l n K) (ht : t < n) (m : Nat) (hm : m * K ≤ l.length) : (m : Int) ≤ own l t ((m * K : Nat) : Int) := by
  have key : ∀ i, i ≤ m → i ≤ ownTo l t ((m * K : Nat) : Int) (i * K) := by
    intro i
    induction i with
    | zero => intro _; exact Nat.zero_le _
    | succ i ih =>
      intro hi
      have h0 := ih (by omega)
      have h1 : (i + 1) * K ≤ m * K := Nat.mul_le_mul_right _ hi
      have h2 : (i + 1) * K = i * K + K := Nat.succ_mul i K
      obtain ⟨j, j1, j2, j3⟩ := hf (i * K) (by omega) t ht
      have := ownTo_hit l t ((m * K : Nat) : Int) (i * K) ((i + 1) * K) j j1 (by omega) j3 (by omega)
      omega
  have h1 := key m (Nat.le_refl _)
  have h2 := ownTo_mono l t ((m * K : Nat) : Int) (m * K) (l.length - m * K)
  rw [show m * K + (l.length - m * K) = l.length by omega] at h2
  unfold own
  omega

def MoreJ (n K : Nat) (l : List Int) (t : Int) (A : Option Addr) (cap : Nat) (w : World) (a : Act) (w' : World) : Prop :=
  a.tmps.size = 75 ∧ a.defers = [] ∧ a.tmps.getD 0 undef = .slice A l.length cap ∧ a.tmps.getD 1 undef = .int .i64 t ∧ a.tmps.getD 7 undef = .int .i64 K ∧
    ∃ q : Nat, a.tmps.getD 9 undef = .int .i64 q ∧ q ≤ n ∧ w' = w
def MoreJ2 (K q : Nat) (l : List Int) (t : Int) (A : Option Addr) (cap : Nat) (w : World) (a : Act) (w' : World) : Prop :=
  a.tmps.size = 75 ∧ a.defers = [] ∧ a.tmps.getD 0 undef = .slice A l.length cap ∧ a.tmps.getD 1 undef = .int .i64 t ∧ a.tmps.getD 7 undef = .int .i64 K ∧ a.tmps.getD 9 undef = .int .i64 q ∧
    ∃ m : Nat, a.tmps.getD 10 undef = .int .i64 m ∧ m ≤ l.length + 1 ∧ w' = w

set_option maxHeartbeats 4000000 in
set_option maxRecDepth 100000 in
theorem more_walk (l : List Int) (A : Option Addr) (cap : Nat) (t k0 k1 : Int) (w : World) (hc : l.length ≤ cap) (hm : cap ≤ maxLen) (a0 : 0 ≤ k0) (b0 : k0 ≤ 255) (a1 : 0 ≤ k1) (b1 : k1 ≤ 255) (hs : Sl w w.heap.size A (l.flatMap decI)) :
    Calls Try.prog 10 #[.slice A l.length cap, .int .i64 t, .agg #[.int .u8 k0, .int .u8 k1]] w fun e w' => e = .returned (.bool true) ∧ Below w.heap.size w w' := by
  have hm3 : l.length ≤ 9223372036854775807 := by simp only [maxLen] at hm; omega
  by_cases hle : l.length ≤ 60
  · have i1 : ¬ (60 : Int) < (l.length : Int) := by omega
    have hl65 : l.length ≤ 65536 := by omega
    have hlg := longest_le (som t) l
    have hn32 := som_le t
    have F1 := Lib.hid (@fairB_pos l t (1 + k0) (by omega))
    have F2 := Lib.hid (@fairB_pos l t (1 + k0 + k1) (by omega))
    have FB := Lib.hid ((longest_lt (som t) l (longest (som t) l + 1) (by omega)).1 (by omega))
    have L0 := Lib.hid (fun W h => least_any l A cap t W hl65 h)
    have L1 := Lib.hid (fun W h => fair_any l A cap t (1 + k0) W hl65 h)
    have L2 := Lib.hid (fun W h => fair_any l A cap t (1 + k0 + k1) W hl65 h)
    have LS := Lib.hid (fun W => rsome_any t W)
    obtain ⟨K, hK⟩ : ∃ K, longest (som t) l + 1 = K := ⟨_, rfl⟩
    have hKz : ((longest (som t) l : Int) + 1) = (K : Int) := by omega
    rw [hKz] at L0 F1 F2
    rw [hK] at FB
    have hK1 : 1 ≤ K := by omega
    have hK2 : K ≤ 61 := by omega
    clear hK hKz hlg
    generalize som t = n at *
    have hbx := below_new w (.cells #[.int .u8 k0, .int .u8 k1] 60)
    have hsx := hs.push (.cells #[.int .u8 k0, .int .u8 k1] 60)
    have c1 : (w.alloc (.cells #[.int .u8 k0, .int .u8 k1] 60)).cell? ⟨w.heap.size, 1, none⟩ = some (.int .u8 k1) := by rw [World.cell?_alloc_at _ _ _ _ rfl]; rfl
    have c0 : (w.alloc (.cells #[.int .u8 k0, .int .u8 k1] 60)).cell? ⟨w.heap.size, 0, none⟩ = some (.int .u8 k0) := by rw [World.cell?_alloc_at _ _ _ _ rfl]; rfl
    have hz : w.heap.size < (w.alloc (.cells #[.int .u8 k0, .int .u8 k1] 60)).heap.size := by simp
    go_enter Try.func10, Try.ntmps10
    go_wp2_with fail
    refine (L0.out _ hsx).mono ?_
    rintro e w1 ⟨rfl, hb⟩
    have hs1 := hsx.step hb
    have d0 := (hb.cell (p := ⟨w.heap.size, 0, none⟩) hz).trans c0
    have d1 := (hb.cell (p := ⟨w.heap.size, 1, none⟩) hz).trans c1
    have hz1 : w.heap.size < w1.heap.size := Nat.lt_of_lt_of_le hz hb.size
    have H1 := below_chain hbx hb (Nat.le_refl _)
    clear hb hsx c0 c1 hz hbx
    by_cases hfa : (K : Int) ≤ 1 + k0
    · rw [decide_eq_true hfa] at F1
      rw [F1.out] at L1
      have hfb : (K : Int) ≤ 1 + k0 + k1 := by omega
      rw [decide_eq_true hfb] at F2
      rw [F2.out] at L2
      go_wp2_with fail
      refine (L1.out _ hs1).mono ?_
      rintro e w2 ⟨rfl, hb⟩
      have hs2 := hs1.step hb
      have d2 := (hb.cell (p := ⟨w.heap.size, 1, none⟩) hz1).trans d1
      have hz2 : w.heap.size < w2.heap.size := Nat.lt_of_lt_of_le hz1 hb.size
      have H2 := below_chain H1 hb (Nat.le_refl _)
      clear hb
      go_wp2_with fail
      refine (L1.out _ hs2).mono ?_
      rintro e w3 ⟨rfl, hb⟩
      have hs3 := hs2.step hb
      have d3 := (hb.cell (p := ⟨w.heap.size, 1, none⟩) hz2).trans d2
      have H3 := below_chain H2 hb (Nat.le_refl _)
      clear hb
      go_wp2_with fail
      refine (L2.out _ hs3).mono ?_
      rintro e w4 ⟨rfl, hb⟩
      have hs4 := hs3.step hb
      have H4 := below_chain H3 hb (Nat.le_refl _)
      clear hb
      go_wp2_with fail
      refine wp_loop (MoreJ n K l t A cap w4) (fun a' _ => n - (intOf (a'.tmps.getD 9 undef)).toNat) ?_ ?_
      · exact ⟨rfl, rfl, rfl, rfl, rfl, 0, rfl, Nat.zero_le _, rfl⟩
      · rintro a' w' ⟨hsz, hdf, s0, s1, s7, q, s9, hq, hww⟩
        obtain ⟨u, rfl, hu⟩ := frame75 hsz hdf
        rw [hu] at s0 s1 s7 s9
        simp only [s0, s1, s7, s9]
        clear hsz hdf s0 s1 s7 s9 hu
        obtain rfl := hww.symm
        by_cases hqn : q < n
        · go_wp2_with fail
          refine (LS.out _).mono ?_
          rintro e wx ⟨rfl, hwx⟩
          obtain rfl := hwx.symm
          go_wp2_with fail
          refine wp_loop (MoreJ2 K q l t A cap w4) (fun a' _ => l.length + 2 - (intOf (a'.tmps.getD 10 undef)).toNat) ?_ ?_
          · exact ⟨rfl, rfl, rfl, rfl, rfl, rfl, 1, rfl, by omega, rfl⟩
          · rintro a' w'' ⟨hsz, hdf, s0, s1, s7, s9, m, s10, hml, hww2⟩
            obtain ⟨u, rfl, hu⟩ := frame75 hsz hdf
            rw [hu] at s0 s1 s7 s9 s10
            simp only [s0, s1, s7, s9, s10]
            clear hsz hdf s0 s1 s7 s9 s10 hu
            obtain rfl := hww2.symm
            have hmk := Lib.hid (show ((m : Int) * (K : Int)) = ((m * K : Nat) : Int) by simp)
            have hmk0 : 0 ≤ (m : Int) * (K : Int) := by rw [hmk.out]; omega
            have hmk1 : (m : Int) * (K : Int) ≤ 4000 := by
              have : m * K ≤ 61 * 61 := Nat.mul_le_mul (by omega) hK2
              rw [hmk.out]
              omega
            by_cases hin : m * K ≤ l.length
            · have hin1 : (m : Int) * (K : Int) ≤ (l.length : Int) := by rw [hmk.out]; omega
              have hown := own_ge FB.out hqn m hin
              rw [← hmk.out] at hown
              have hown1 : ¬ own l q ((m : Int) * (K : Int)) < (m : Int) := by omega
              have hmm : m ≤ l.length := Nat.le_trans (Nat.le_mul_of_pos_right m hK1) hin
              clear hown
              go_wp2_with fail
              refine (own_any l A cap q ((m : Int) * (K : Int)) _ _ hm3 hs4).mono ?_
              rintro e wy ⟨rfl, hwy⟩
              obtain rfl := hwy.symm
              go_wp2_with fail
              exact ⟨⟨rfl, rfl, rfl, rfl, rfl, rfl, m + 1, rfl, by omega, rfl⟩, by simp [intOf]; omega⟩
            · have hin1 : ¬ (m : Int) * (K : Int) ≤ (l.length : Int) := by rw [hmk.out]; omega
              go_wp2_with fail
              exact ⟨⟨rfl, rfl, rfl, rfl, rfl, q + 1, rfl, hqn, rfl⟩, by simp [intOf]; omega⟩
        · go_wp2_with fail
          refine (LS.out _).mono ?_
          rintro e wx ⟨rfl, hwx⟩
          obtain rfl := hwx.symm
          go_wp2_with fail
          refine (awake_any _).mono ?_
          rintro e wy ⟨rfl, hb⟩
          go_wp2_with fail
          go_ret
          exact ⟨rfl, below_chain H4 hb (Nat.le_refl _)⟩
    · have hfa' : decide ((K : Int) ≤ 1 + k0) = false := by simpa using hfa
      rw [hfa'] at F1
      rw [F1.out] at L1
      go_wp2_with fail
      refine (L1.out _ hs1).mono ?_
      rintro e w2 ⟨rfl, hb⟩
      have hs2 := hs1.step hb
      have H2 := below_chain H1 hb (Nat.le_refl _)
      clear hb
      go_wp2_with fail
      refine (L1.out _ hs2).mono ?_
      rintro e w3 ⟨rfl, hb⟩
      have hs3 := hs2.step hb
      have H3 := below_chain H2 hb (Nat.le_refl _)
      clear hb
      go_wp2_with fail
      refine wp_loop (MoreJ n K l t A cap w3) (fun a' _ => n - (intOf (a'.tmps.getD 9 undef)).toNat) ?_ ?_
      · exact ⟨rfl, rfl, rfl, rfl, rfl, 0, rfl, Nat.zero_le _, rfl⟩
      · rintro a' w' ⟨hsz, hdf, s0, s1, s7, q, s9, hq, hww⟩
        obtain ⟨u, rfl, hu⟩ := frame75 hsz hdf
        rw [hu] at s0 s1 s7 s9
        simp only [s0, s1, s7, s9]
        clear hsz hdf s0 s1 s7 s9 hu
        obtain rfl := hww.symm
        by_cases hqn : q < n
        · go_wp2_with fail
          refine (LS.out _).mono ?_
          rintro e wx ⟨rfl, hwx⟩
          obtain rfl := hwx.symm
          go_wp2_with fail
          refine wp_loop (MoreJ2 K q l t A cap w3) (fun a' _ => l.length + 2 - (intOf (a'.tmps.getD 10 undef)).toNat) ?_ ?_
          · exact ⟨rfl, rfl, rfl, rfl, rfl, rfl, 1, rfl, by omega, rfl⟩
          · rintro a' w'' ⟨hsz, hdf, s0, s1, s7, s9, m, s10, hml, hww2⟩
            obtain ⟨u, rfl, hu⟩ := frame75 hsz hdf
            rw [hu] at s0 s1 s7 s9 s10
            simp only [s0, s1, s7, s9, s10]
            clear hsz hdf s0 s1 s7 s9 s10 hu
            obtain rfl := hww2.symm
            have hmk := Lib.hid (show ((m : Int) * (K : Int)) = ((m * K : Nat) : Int) by simp)
            have hmk0 : 0 ≤ (m : Int) * (K : Int) := by rw [hmk.out]; omega
            have hmk1 : (m : Int) * (K : Int) ≤ 4000 := by
              have : m * K ≤ 61 * 61 := Nat.mul_le_mul (by omega) hK2
              rw [hmk.out]
              omega
            by_cases hin : m * K ≤ l.length
            · have hin1 : (m : Int) * (K : Int) ≤ (l.length : Int) := by rw [hmk.out]; omega
              have hown := own_ge FB.out hqn m hin
              rw [← hmk.out] at hown
              have hown1 : ¬ own l q ((m : Int) * (K : Int)) < (m : Int) := by omega
              have hmm : m ≤ l.length := Nat.le_trans (Nat.le_mul_of_pos_right m hK1) hin
              clear hown
              go_wp2_with fail
              refine (own_any l A cap q ((m : Int) * (K : Int)) _ _ hm3 hs3).mono ?_
              rintro e wy ⟨rfl, hwy⟩
              obtain rfl := hwy.symm
              go_wp2_with fail
              exact ⟨⟨rfl, rfl, rfl, rfl, rfl, rfl, m + 1, rfl, by omega, rfl⟩, by simp [intOf]; omega⟩
            · have hin1 : ¬ (m : Int) * (K : Int) ≤ (l.length : Int) := by rw [hmk.out]; omega
              go_wp2_with fail
              exact ⟨⟨rfl, rfl, rfl, rfl, rfl, q + 1, rfl, hqn, rfl⟩, by simp [intOf]; omega⟩
        · go_wp2_with fail
          refine (LS.out _).mono ?_
          rintro e wx ⟨rfl, hwx⟩
          obtain rfl := hwx.symm
          go_wp2_with fail
          refine (awake_any _).mono ?_
          rintro e wy ⟨rfl, hb⟩
          go_wp2_with fail
          go_ret
          exact ⟨rfl, below_chain H3 hb (Nat.le_refl _)⟩
  · have i1 : (60 : Int) < (l.length : Int) := by omega
    go_enter Try.func10, Try.ntmps10
    go_wp2_with (go_at_call 34; refine (awake_any _).mono ?_; rintro e w' ⟨rfl, hb⟩)
    go_ret
    exact ⟨rfl, below_chain (below_new _ _) hb (Nat.le_refl _)⟩

theorem more_law (w : World) (A : Option Addr) (cap : Nat) (l : List Int) (hc : l.length ≤ cap) (hm : cap ≤ maxLen) (_w0 : ∀ x ∈ l, isI64 x) (hs : Sl w w.heap.size A (l.flatMap decI)) (t : Int) (_ht : isI64 t)
    (n : List Int) (hn : n.length = 2 ∧ ∀ a ∈ n, isU8 a) :
    Calls Try.prog 10 #[.slice A l.length cap, .int .i64 t, .agg (n.flatMap fun n => [.int .u8 n]).toArray] w fun e w' => e = .returned (.bool true) ∧ Below w.heap.size w w' := by
  obtain ⟨hn, hn2⟩ := hn
  obtain ⟨a, b, rfl⟩ := list2 hn
  obtain ⟨p1, p2⟩ := hn2 a (by simp)
  obtain ⟨p3, p4⟩ := hn2 b (by simp)
  exact more_walk l A cap t a b w hc hm p1 p2 p3 p4 hs
end Go.Proofs.Ytmldkfmebplblaa.Fai
