/- The law SharedAlone: its walk. -/
import Derived.Test.YtfdcojhgpfmloaaShL2
namespace Go.Proofs.Ytfdcojhgpfmloaa.Sha
open Go.RowKit

theorem frame80 {a : Act} (h : a.tmps.size = 80) (hd : a.defers = []) : ∃ u : Nat → Value, a = { tmps := #[u 0, u 1, u 2, u 3, u 4, u 5, u 6, u 7, u 8, u 9, u 10, u 11, u 12, u 13, u 14, u 15, u 16, u 17, u 18, u 19, u 20, u 21, u 22, u 23, u 24, u 25, u 26, u 27, u 28, u 29, u 30, u 31, u 32, u 33, u 34, u 35, u 36, u 37, u 38, u 39, u 40, u 41, u 42, u 43, u 44, u 45, u 46, u 47, u 48, u 49, u 50, u 51, u 52, u 53, u 54, u 55, u 56, u 57, u 58, u 59, u 60, u 61, u 62, u 63, u 64, u 65, u 66, u 67, u 68, u 69, u 70, u 71, u 72, u 73, u 74, u 75, u 76, u 77, u 78, u 79], defers := [] } ∧ ∀ n, a.tmps.getD n undef = u n := by
  refine ⟨fun n => a.tmps.getD n undef, ?_, fun _ => rfl⟩
  have h1 := arr_lit a.tmps h
  cases a with
  | mk t d =>
    simp only at hd h1
    subst hd
    congr 1
def wC (s : List (Nat × Bool)) : Nat := s.count (2, false)
/-- A writer is in alone. -/
def Alone (s : List (Nat × Bool)) : Prop := wC s ≤ 1 ∧ (wC s = 1 → rOf s = 0)
theorem wOf_count (s : List (Nat × Bool)) : 0 ≤ wOf s ↔ 0 < wC s := by
  unfold wOf wC
  cases h : s.findIdx? (· == (2, false)) with
  | none =>
    have := List.findIdx?_eq_none_iff.1 h
    have h0 : s.count (2, false) = 0 := List.count_eq_zero.2 (fun hm => by have := this _ hm; simp at this)
    simp [h0]
  | some i =>
    obtain ⟨hi, he, _⟩ := List.findIdx?_eq_some_iff_getElem.1 h
    have e : s[i] = (2, false) := by simpa using he
    have hm : (2, false) ∈ s := e ▸ List.getElem_mem hi
    have hp : 0 < s.count (2, false) := List.count_pos_iff.2 hm
    show (0 : Int) ≤ (i : Int) ↔ _
    exact ⟨fun _ => hp, fun _ => by omega⟩
theorem alone_zero (n : Nat) : Alone (zerosS n) := by
  have h : wC (zerosS n) = 0 := by
    unfold wC zerosS
    rw [List.count_eq_zero]
    intro hm
    have := List.eq_of_mem_replicate hm
    simp at this
  exact ⟨by omega, by omega⟩
theorem count_at {α : Type} [BEq α] [LawfulBEq α] (s : List α) (k : Nat) (hk : k < s.length) (b x : α) : (s.set k b).count x + (if s[k] == x then 1 else 0) = s.count x + (if b == x then 1 else 0) := by
  rw [List.count_set hk]
  have : (if s[k] == x then 1 else 0) ≤ s.count x := by
    split
    · rename_i h
      exact List.count_pos_iff.2 ((beq_iff_eq.1 h) ▸ List.getElem_mem hk)
    · exact Nat.zero_le _
  omega
theorem do_alone (s : List (Nat × Bool)) (e : Ev) (h : Alone s) : Alone (doS s e).2 := by
  unfold doS
  split
  · exact h
  split
  · exact h
  split
  · exact h
  rename_i k1 k0 hh
  split
  · rename_i hm
    obtain ⟨k, hk⟩ := Int.eq_ofNat_of_zero_le (show 0 ≤ e.thread by omega)
    have hkl : k < s.length := by omega
    rw [hk] at hm ⊢
    simp only [Int.ofNat_eq_natCast, stOfT_in hkl, Int.toNat_natCast] at hm ⊢
    have c1 := count_at s k hkl (movS s s[k] e).1 (2, false)
    have c2 := count_at s k hkl (movS s s[k] e).1 (2, true)
    have q1 : 0 ≤ wOf s ↔ 0 < wC s := wOf_count s
    obtain ⟨a1, a2⟩ := h
    unfold Alone rOf wC at *
    obtain ⟨kd, th, rd, ct⟩ := e
    simp only at k1 k0
    have hmem : s[k] ∈ s := List.getElem_mem hkl
    obtain ⟨x, hx⟩ : ∃ x, s[k] = x := ⟨_, rfl⟩
    rw [hx] at hm c1 c2 hmem ⊢
    obtain ⟨a, b⟩ := x
    unfold movS at hm c1 c2 ⊢
    rcases (show kd = 1 ∨ kd = 2 ∨ kd = 3 ∨ kd = 4 by omega) with rfl | rfl | rfl | rfl
    · by_cases ha : a = 0
      · subst ha
        simp at c1 c2 hm ⊢
        omega
      · simp [ha] at hm
    · by_cases ha : a = 1
      · subst ha
        by_cases hr : rd = b
        · subst hr
          unfold entersS rOf at hm
          generalize List.count (2, true) s = n2 at *
          generalize List.count (2, false) s = n1 at *
          cases rd
          · simp at c1 c2 hm ⊢
            omega
          · simp at c1 c2 hm ⊢
            omega
        · simp [hr] at hm
      · simp [ha] at hm
    · by_cases ha : a = 2
      · subst ha
        by_cases hr : rd = b
        · subst hr
          have p1 := List.count_pos_iff.2 hmem
          cases rd
          · simp at c1 c2 hm ⊢
            omega
          · simp at c1 c2 hm ⊢
            omega
        · simp [hr] at hm
      · simp [ha] at hm
    · by_cases ha : a = 3
      · subst ha
        by_cases hr : rd = b
        · subst hr
          simp at c1 c2 hm ⊢
          omega
        · simp [hr] at hm
      · simp [ha] at hm
  · exact h

theorem wC_take (s : List (Nat × Bool)) (k : Nat) : wC (s.take (k + 1)) = wC (s.take k) + if stOfT s (k : Int) = (2, false) then 1 else 0 := by
  by_cases h : k < s.length
  · rw [stOfT_in h]
    unfold wC
    rw [List.take_succ_eq_append_getElem h, List.count_append]
    congr 1
    simp [List.count_singleton]
  · have : stOfT s (k : Int) = (0, false) := by unfold stOfT; simp [List.getElem?_eq_none (show s.length ≤ k by omega)]
    rw [this, if_neg (by decide), List.take_of_length_le (by omega), List.take_of_length_le (by omega)]
    rfl
theorem rOf_take2 (s : List (Nat × Bool)) (k : Nat) : rOf (s.take (k + 1)) = rOf (s.take k) + if stOfT s (k : Int) = (2, true) then 1 else 0 := by
  by_cases h : k < s.length
  · rw [stOfT_in h]
    exact rOf_take s k h
  · have : stOfT s (k : Int) = (0, false) := by unfold stOfT; simp [List.getElem?_eq_none (show s.length ≤ k by omega)]
    rw [this, if_neg (by decide), List.take_of_length_le (by omega), List.take_of_length_le (by omega)]
    rfl

def AlJ (l : List Ev) (A : Option Addr) (cap : Nat) (w : World) (a : Act) (W : World) : Prop :=
  a.tmps.size = 80 ∧ a.defers = [] ∧ a.tmps.getD 1 undef = .slice A l.length cap ∧ a.tmps.getD 5 undef = .pointer (some ⟨w.heap.size + 1, 0, none⟩) ∧
    ∃ (k : Nat) (s : List (Nat × Bool)), a.tmps.getD 6 undef = .int .i64 k ∧ k ≤ l.length ∧ Alone s ∧ At w.heap.size w W s
def AlJ2 (l : List Ev) (A : Option Addr) (cap k : Nat) (w : World) (s : List (Nat × Bool)) (a : Act) (W : World) : Prop :=
  a.tmps.size = 80 ∧ a.defers = [] ∧ a.tmps.getD 1 undef = .slice A l.length cap ∧ a.tmps.getD 5 undef = .pointer (some ⟨w.heap.size + 1, 0, none⟩) ∧ a.tmps.getD 6 undef = .int .i64 k ∧
    ∃ q : Nat, a.tmps.getD 7 undef = .int .i64 (rOf (s.take q)) ∧ a.tmps.getD 8 undef = .int .i64 (wC (s.take q)) ∧ a.tmps.getD 9 undef = .int .i64 q ∧ q ≤ 32 ∧ At w.heap.size w W s

theorem wC_le (s : List (Nat × Bool)) (k : Nat) : wC (s.take k) ≤ k := Nat.le_trans List.count_le_length (by rw [List.length_take]; omega)


set_option maxHeartbeats 4000000 in
set_option maxRecDepth 100000 in
theorem alone_walk (T : Int) (l : List Ev) (A : Option Addr) (cap : Nat) (w : World) (hcm : l.length ≤ 9223372036854775807) (hs : Sl w w.heap.size A (l.flatMap decE)) :
    Calls Try.prog 4 #[.int .i64 T, .slice A l.length cap] w fun e w' => e = .returned (.bool true) ∧ Below w.heap.size w w' := by
  by_cases hle : l.length ≤ 60
  · have i1 : ¬ (60 : Int) < (l.length : Int) := by omega
    go_enter Try.func4, Try.ntmps4
    go_wp2_with fail
    refine (new_any T _ _ rfl).mono ?_
    rintro e w1 ⟨rfl, hat⟩
    go_wp2_with fail
    refine wp_loop (AlJ l A cap w) (fun a' _ => l.length - (intOf (a'.tmps.getD 6 undef)).toNat) ?_ ?_
    · exact ⟨rfl, rfl, rfl, rfl, 0, _, rfl, Nat.zero_le _, alone_zero _, hat⟩
    · clear hat
      rintro a' W ⟨hsz, hdf, s1, s5, k, s, s6, hk, hone, hat⟩
      obtain ⟨u, rfl, hu⟩ := frame80 hsz hdf
      rw [hu] at s1 s5 s6
      simp only [s1, s5, s6]
      clear hsz hdf s1 s5 s6 hu
      by_cases hlt : k < l.length
      · obtain ⟨b, off, rfl, hbb, hcell⟩ := Sl_at (k := 4) (fun _ => rfl) (by omega) (hs.below hat.2.2) (by omega)
        have h0 := hcell k hlt 0 (by omega)
        have h1 := hcell k hlt 1 (by omega)
        have h2 := hcell k hlt 2 (by omega)
        have h3 := hcell k hlt 3 (by omega)
        simp only [decE, List.getElem?_cons_zero, List.getElem?_cons_succ, Nat.add_zero, ← Nat.add_assoc] at h0 h1 h2 h3
        have HO := Lib.hid (do_alone s l[k] hone)
        clear hcell hone
        go_wp2_with fail
        refine (do_at _ _ _ _ _ l[k] _ hat rfl rfl).mono ?_
        rintro e W1 ⟨rfl, hat1, _⟩
        clear hat h0 h1 h2 h3
        generalize (doS s l[k]).1 = x at *
        generalize (doS s l[k]).2 = s at *
        go_wp2_with fail
        refine wp_loop (AlJ2 l (some ⟨b, off, none⟩) cap k w s) (fun a' _ => 33 - (intOf (a'.tmps.getD 9 undef)).toNat) ?_ ?_
        · exact ⟨rfl, rfl, rfl, rfl, rfl, 0, rfl, rfl, rfl, by omega, hat1⟩
        · clear hat1
          rintro a' W ⟨hsz, hdf, s1, s5, s6, q, s7, s8, s9, hq, hat⟩
          obtain ⟨u, rfl, hu⟩ := frame80 hsz hdf
          rw [hu] at s1 s5 s6 s7 s8 s9
          simp only [s1, s5, s6, s7, s8, s9]
          clear hsz hdf s1 s5 s6 s7 s8 s9 hu
          have hr32 := rOf_le s q
          have hw32 := wC_le s q
          by_cases hqn : q < 32
          · have HR := Lib.hid (rOf_take2 s q)
            have HW := Lib.hid (wC_take s q)
            generalize rOf (s.take q) = r at *
            generalize wC (s.take q) = c at *
            go_wp2_with fail
            refine (state_at _ _ _ _ q ((stOfT s (q : Int)).1 : Nat) (stOfT s (q : Int)).2 hat rfl rfl).mono ?_
            rintro e W2 ⟨rfl, hbb⟩
            have hat2 := hat.same hbb
            clear hat hbb
            generalize stOfT s (q : Int) = x at *
            obtain ⟨xa, xb⟩ := x
            by_cases ha : xa = 2
            · subst ha
              cases xb
              · have HR2 := Lib.hid (show rOf (s.take (q + 1)) = r by rw [HR.out, if_neg (by decide)]; rfl)
                have HW2 := Lib.hid (show wC (s.take (q + 1)) = c + 1 by rw [HW.out, if_pos rfl])
                go_wp2_with fail
                exact ⟨⟨rfl, rfl, rfl, rfl, rfl, q + 1, by rw [HR2.out]; rfl, by rw [HW2.out]; rfl, rfl, hqn, hat2⟩, by simp [intOf]; omega⟩
              · have HR2 := Lib.hid (show rOf (s.take (q + 1)) = r + 1 by rw [HR.out, if_pos rfl])
                have HW2 := Lib.hid (show wC (s.take (q + 1)) = c by rw [HW.out, if_neg (by decide)]; rfl)
                go_wp2_with fail
                exact ⟨⟨rfl, rfl, rfl, rfl, rfl, q + 1, by rw [HR2.out]; rfl, by rw [HW2.out]; rfl, rfl, hqn, hat2⟩, by simp [intOf]; omega⟩
            · have e1 := ibeq_no (show ¬ (xa : Int) = 2 by omega)
              have HR2 := Lib.hid (show rOf (s.take (q + 1)) = r by rw [HR.out, if_neg (fun e => ha (congrArg Prod.fst e))]; rfl)
              have HW2 := Lib.hid (show wC (s.take (q + 1)) = c by rw [HW.out, if_neg (fun e => ha (congrArg Prod.fst e))]; rfl)
              clear ha
              go_wp2_with fail
              exact ⟨⟨rfl, rfl, rfl, rfl, rfl, q + 1, by rw [HR2.out]; rfl, by rw [HW2.out]; rfl, rfl, hqn, hat2⟩, by simp [intOf]; omega⟩
          · have hl32 := hat.1.1
            have HA := HO.out
            rw [List.take_of_length_le (by omega)]
            have hwo := wOf_count s
            obtain ⟨a1, a2⟩ := HA
            have e2 := nbne_no (rfl : rOf s = rOf s)
            rcases (show wC s = 0 ∨ wC s = 1 by omega) with hc | hc
            · have hneg : wOf s < 0 := by omega
              rw [hc]
              clear a1 a2 hwo hr32 hw32
              have HCC := Lib.hid hc
              clear hc
              go_wp2_with fail
              refine (readers_at _ _ _ _ _ hat rfl).mono ?_
              rintro e W2 ⟨rfl, hbb⟩
              have hat2 := hat.same hbb
              clear hat hbb
              go_wp2_with fail
              refine (writer_at _ _ _ _ _ hat2 rfl).mono ?_
              rintro e W3 ⟨rfl, hbb⟩
              have hat3 := hat2.same hbb
              clear hat2 hbb
              go_wp2_with fail
              exact ⟨⟨rfl, rfl, rfl, rfl, k + 1, s, rfl, hlt, HO.out, hat3⟩, by simp [intOf]; omega⟩
            · have hpos : 0 ≤ wOf s := by omega
              have hz := a2 hc
              rw [hc, hz]
              clear a1 a2 hwo hr32 hw32 hc
              have HZ := Lib.hid hz
              clear hz
              go_wp2_with fail
              refine (readers_at _ _ _ _ 0 hat (by rw [HZ.out]; rfl)).mono ?_
              rintro e W2 ⟨rfl, hbb⟩
              have hat2 := hat.same hbb
              clear hat hbb
              go_wp2_with fail
              refine (writer_at _ _ _ _ _ hat2 rfl).mono ?_
              rintro e W3 ⟨rfl, hbb⟩
              have hat3 := hat2.same hbb
              clear hat2 hbb
              go_wp2_with fail
              exact ⟨⟨rfl, rfl, rfl, rfl, k + 1, s, rfl, hlt, HO.out, hat3⟩, by simp [intOf]; omega⟩
      · clear hone
        go_wp2_with fail
        refine (awake_any _).mono ?_
        rintro e W3 ⟨rfl, hb⟩
        go_wp2_with fail
        go_ret
        exact ⟨rfl, (hat.same hb).2.2⟩
  · have i1 : (60 : Int) < (l.length : Int) := by omega
    go_enter Try.func4, Try.ntmps4
    go_wp2_with fail
    refine (awake_any _).mono ?_
    rintro e W3 ⟨rfl, hb⟩
    go_wp2_with fail
    go_ret
    exact ⟨rfl, hb⟩

theorem reads_ev {H : Type} {enc : TypeId × Value → H} : Reads enc Try.prog 29 decE (fun e => isI64 e.kind ∧ isI64 e.thread ∧ isI64 e.count) :=
  (reads_s4 (d0 := Value.int .i64) (d1 := Value.int .i64) (d2 := Value.bool) (d3 := Value.int .i64) Try.underlying29 (by kernel_rfl) (by kernel_rfl) (reads_i64 Try.underlying3) (reads_i64 Try.underlying3) (reads_bool Try.underlying4) (reads_i64 Try.underlying3)).map
    (fun p => ⟨p.1, p.2.1, p.2.2.1, p.2.2.2⟩) (fun _ => rfl) (fun _ h => ⟨h.1, h.2.1, h.2.2.2⟩)
theorem plays_law (w : World) (T : Int) (_h0 : isI64 T) (A : Option Addr) (c : Nat) (l : List Ev) (hc : l.length ≤ c) (hm : c ≤ maxLen) (_w0 : ∀ e ∈ l, isI64 e.kind ∧ isI64 e.thread ∧ isI64 e.count) (hs : Sl w w.heap.size A (l.flatMap decE)) (th : Int) (_h1 : isI64 th) :
    Calls Try.prog 3 #[.int .i64 T, .slice A l.length c, .int .i64 th] w fun e w' => e = .returned (.bool true) ∧ Below w.heap.size w w' := plays_walk T th l A c w hc hm hs
theorem alone_law (w : World) (T : Int) (_h0 : isI64 T) (A : Option Addr) (c : Nat) (l : List Ev) (hc : l.length ≤ c) (hm : c ≤ maxLen) (_w0 : ∀ e ∈ l, isI64 e.kind ∧ isI64 e.thread ∧ isI64 e.count) (hs : Sl w w.heap.size A (l.flatMap decE)) :
    Calls Try.prog 4 #[.int .i64 T, .slice A l.length c] w fun e w' => e = .returned (.bool true) ∧ Below w.heap.size w w' := alone_walk T l A c w (by simp only [maxLen] at hm; omega) hs
theorem none_law (w : World) (e : Ev) (_h : isI64 e.kind ∧ isI64 e.thread ∧ isI64 e.count) (th : Int) (_h1 : isI64 th) :
    Calls Try.prog 5 #[.agg (decE e).toArray, .int .i64 th] w fun e w' => e = .returned (.bool true) ∧ Below w.heap.size w w' := none_walk e th w
end Go.Proofs.Ytfdcojhgpfmloaa.Sha
