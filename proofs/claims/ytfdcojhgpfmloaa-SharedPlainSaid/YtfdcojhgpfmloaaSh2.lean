/- Walks of package shared: all, State, Writer, Readers, enters. -/
import Derived.Test.YtfdcojhgpfmloaaSh1
namespace Go.Proofs.Ytfdcojhgpfmloaa.Sha
open Go.RowKit

/-- What a thread is at, and whether as a reader. -/
def dA (p : Nat × Bool) : List Value := [.int .i64 p.1, .bool p.2]
def stOfT (s : List (Nat × Bool)) (t : Int) : Nat × Bool := if 0 ≤ t then s.getD t.toNat (0, false) else (0, false)
def wOf (s : List (Nat × Bool)) : Int := match s.findIdx? (· == (2, false)) with | some i => i | none => -1
def rOf (s : List (Nat × Bool)) : Nat := s.count (2, true)

/-- A lock, to be read. -/
def Lk (w : World) (g : Nat) (s : List (Nat × Bool)) : Prop := ∃ A c, w.cell? ⟨g, 0, none⟩ = some (.slice A s.length c) ∧ Sl w w.heap.size A (s.flatMap dA) ∧ s.length ≤ 32
theorem Lk.lt {w : World} {g : Nat} {s : List (Nat × Bool)} (h : Lk w g s) : g < w.heap.size := by
  obtain ⟨A, c, h1, _⟩ := h
  exact World.block_lt_of_cell? _ _ h1
theorem Lk.below {w w' : World} {g : Nat} {s : List (Nat × Bool)} (h : Lk w g s) (hb : Below w.heap.size w w') : Lk w' g s := by
  have hg := h.lt
  obtain ⟨A, c, h1, h2, h3⟩ := h
  exact ⟨A, c, (hb.cell (p := ⟨g, 0, none⟩) hg).trans h1, h2.step hb, h3⟩
theorem Lk.alloc {w : World} {g : Nat} {s : List (Nat × Bool)} (h : Lk w g s) (o : Obj) : Lk (w.alloc o) g s := h.below (below_new _ _)
theorem Lk.drewN {w : World} {g : Nat} {s : List (Nat × Bool)} (h : Lk w g s) (n : Nat) : Lk (w.drewN n) g s := h

theorem all_any (g : Nat) (s : List (Nat × Bool)) (A : Option Addr) (c : Nat) (w : World) (h : w.cell? ⟨g, 0, none⟩ = some (.slice A s.length c)) :
    Calls Try.prog 67 #[.pointer (some ⟨g, 0, none⟩)] w fun e w' => e = .returned (.slice A s.length c) ∧ w' = w := by
  go_enter Try.func67, Try.ntmps67
  go_wp2_with fail
  go_ret
  exact ⟨rfl, rfl⟩
theorem all_nil (w : World) : Calls Try.prog 67 #[.pointer none] w fun e w' => e = .returned (.slice none 0 0) ∧ w' = w := by
  go_enter Try.func67, Try.ntmps67
  go_wp2_with fail
  go_ret
  exact ⟨rfl, rfl⟩

theorem eqAt (a c : Int) (b d : Bool) (W : World) : (binOp .eql 106 (.agg #[.int .i64 a, .bool b]) (.agg #[.int .i64 c, .bool d])).run Try.prog W = .ok (.bool (a == c && b == d)) W := by
  have hp : Try.prog.stoodInHeld 106 = false := by kernel_rfl
  have key : ∀ n, (Op.equalIn (n + 1 + 1) 106 (.agg #[.int .i64 a, .bool b]) (.agg #[.int .i64 c, .bool d])).run Try.prog W = .ok (a == c && b == d) W := by
    intro n
    simp only [Op.equalIn, Sem.run_bind, run_underlying Try.underlying106, Result.andThen_ok, run_program, hp, Bool.false_eq_true, if_false]
    rw [← Array.forIn_toList]
    simp [go_sem, Op.equalIn, Try.underlying3, Try.underlying4]
    by_cases h : a = c <;> by_cases k : b = d <;> simp [h, k, go_sem, Op.equalIn, Try.underlying3, Try.underlying4]
  have k := key 9998
  simp only [binOp]
  simp [Op.equal, Op.maxDepth, k]
theorem eqGAt (x y : Operand) (xs ys : Array Value) (W : World) : (eqGuard .eql 106 x y (.agg xs) (.agg ys)).run Try.prog W = .ok () W := by
  have hm : Try.prog.eqGuardType Try.prog.depth 106 = false := by kernel_rfl
  simp [eqGuard, run_program, hm]
theorem eqL (p : Nat × Bool) (x : Int) (y r : Bool) (W : World) (h : (decide ((p.1 : Int) = x ∧ p.2 = y)) = r) : (binOp .eql 106 (.agg #[.int .i64 x, .bool y]) (.agg #[.int .i64 p.1, .bool p.2])).run Try.prog W = .ok (.bool r) W := by
  rw [eqAt, ← h]
  congr 2
  rw [Bool.eq_iff_iff]
  simp only [Bool.and_eq_true, beq_iff_eq, decide_eq_true_eq]
  exact ⟨fun ⟨h1, h2⟩ => ⟨h1.symm, h2.symm⟩, fun ⟨h1, h2⟩ => ⟨h1.symm, h2.symm⟩⟩
theorem eqR (p : Nat × Bool) (x : Int) (y r : Bool) (W : World) (h : (decide ((p.1 : Int) = x ∧ p.2 = y)) = r) : (binOp .eql 106 (.agg #[.int .i64 p.1, .bool p.2]) (.agg #[.int .i64 x, .bool y])).run Try.prog W = .ok (.bool r) W := by
  rw [eqAt, ← h]
  congr 2
  rw [Bool.eq_iff_iff]
  simp only [Bool.and_eq_true, beq_iff_eq, decide_eq_true_eq]
theorem is2 {p : Nat × Bool} {y : Bool} (h : p = (2, y)) : decide ((p.1 : Int) = 2 ∧ p.2 = y) = true := by simp [h]
theorem no2 {p : Nat × Bool} {y : Bool} (h : p ≠ (2, y)) : decide ((p.1 : Int) = 2 ∧ p.2 = y) = false := by
  rw [decide_eq_false_iff_not]
  rintro ⟨h1, h2⟩
  exact h (by obtain ⟨a, b⟩ := p; simp only at h1 h2; rw [h2, show a = 2 by omega])
theorem wOf_none {s : List (Nat × Bool)} (h : ∀ i (hi : i < s.length), s[i] ≠ (2, false)) : wOf s = -1 := by
  unfold wOf
  rw [List.findIdx?_eq_none_iff.2]
  intro y hy
  obtain ⟨i, hi, rfl⟩ := List.getElem_of_mem hy
  simpa using h i hi
theorem wOf_some {s : List (Nat × Bool)} {k : Nat} (hk : k < s.length) (he : s[k] = (2, false)) (h : ∀ i (hi : i < s.length), i < k → s[i] ≠ (2, false)) : wOf s = k := by
  unfold wOf
  rw [(List.findIdx?_eq_some_iff_getElem (i := k)).2 ⟨hk, by simpa using he, fun j hj => by simpa using h j (by omega) hj⟩]

theorem frame19 {a : Act} (h : a.tmps.size = 19) (hd : a.defers = []) : ∃ u : Nat → Value, a = { tmps := #[u 0, u 1, u 2, u 3, u 4, u 5, u 6, u 7, u 8, u 9, u 10, u 11, u 12, u 13, u 14, u 15, u 16, u 17, u 18], defers := [] } ∧ ∀ n, a.tmps.getD n undef = u n := by
  refine ⟨fun n => a.tmps.getD n undef, ?_, fun _ => rfl⟩
  have h1 := arr_lit a.tmps h
  cases a with
  | mk t d =>
    simp only at hd h1
    subst hd
    congr 1
def IxJ (s : List (Nat × Bool)) (A : Option Addr) (cap : Nat) (w : World) (a : Act) (W : World) : Prop :=
  a.tmps.size = 19 ∧ a.defers = [] ∧ a.tmps.getD 0 undef = .slice A s.length cap ∧ a.tmps.getD 3 undef = .pointer (some ⟨w.heap.size, 0, none⟩) ∧ a.tmps.getD 7 undef = .int .i64 s.length ∧
    ∃ k n : Nat, a.tmps.getD 8 undef = .int .i64 k ∧ k ≤ s.length ∧ (∀ j (h : j < s.length), j < k → s[j] ≠ (2, false)) ∧ W = (w.alloc (.cells #[.int .i64 2, .bool false] 106)).drewN n

set_option maxHeartbeats 1000000 in
theorem index_any (s : List (Nat × Bool)) (A : Option Addr) (cap : Nat) (w : World) (hm : s.length ≤ 32) (hs : Sl w w.heap.size A (s.flatMap dA)) :
    Calls Try.prog 70 #[.slice A s.length cap, .agg #[.int .i64 2, .bool false]] w fun e w' => e = .returned (.int .i64 (wOf s)) ∧ Below w.heap.size w w' := by
  go_enter Try.func70, Try.ntmps70
  go_wp2_with fail
  refine wp_loop (IxJ s A cap w) (fun a' _ => s.length - (intOf (a'.tmps.getD 8 undef)).toNat) ?_ ?_
  · exact ⟨rfl, rfl, rfl, rfl, rfl, 0, 0, rfl, Nat.zero_le _, by omega, rfl⟩
  · rintro a' W ⟨hsz, hdf, s0, s3, s7, k, n, s8, hk, hno, hW⟩
    obtain ⟨u, rfl, hu⟩ := frame19 hsz hdf
    rw [hu] at s0 s3 s7 s8
    simp only [s0, s3, s7, s8]
    clear hsz hdf s0 s3 s7 s8 hu
    have hb : Below w.heap.size w W := by rw [hW]; exact below_drewN (below_new _ _) n
    have c0 : W.cell? ⟨w.heap.size, 0, none⟩ = some (.int .i64 2) := by rw [hW]; exact World.cell?_alloc_at _ _ _ _ rfl
    have c1 : W.cell? ⟨w.heap.size, 1, none⟩ = some (.bool false) := by rw [hW]; exact World.cell?_alloc_at _ _ _ _ rfl
    have HW := Lib.hid hW
    have HN := Lib.hid hno
    clear hno hW
    by_cases hlt : k < s.length
    · obtain ⟨b, off, rfl, hbb, hcell⟩ := Sl_at (k := 2) (fun _ => rfl) (by omega) (hs.step hb) (by omega)
      have h0 := hcell k hlt 0 (by omega)
      have h1 := hcell k hlt 1 (by omega)
      simp only [dA, List.getElem?_cons_zero, List.getElem?_cons_succ, Nat.add_zero, ← Nat.add_assoc] at h0 h1
      clear hcell
      have g1 := fun x y xs ys W => eqGAt x y xs ys W
      by_cases hx : s[k] = (2, false)
      · have g2 := fun W => eqL s[k] 2 false true W (is2 hx)
        have HE := Lib.hid (wOf_some hlt hx HN.out)
        clear hx
        go_wp2_with fail
        go_quiet (fail)
        go_wp2_with fail
        go_ret
        exact ⟨by rw [HE.out]; rfl, below_drewN hb _⟩
      · have g2 := fun W => eqL s[k] 2 false false W (no2 hx)
        have HX := Lib.hid hx
        clear hx
        go_wp2_with fail
        go_quiet (fail)
        go_wp2_with fail
        exact ⟨⟨rfl, rfl, rfl, rfl, rfl, k + 1, _, rfl, hlt, fun j h1 h2 => by
          by_cases h3 : j < k
          · exact HN.out j h1 h3
          · obtain rfl : j = k := by omega
            exact HX.out, by rw [HW.out, World.drewN_drewN]⟩, by simp [intOf]; omega⟩
    · have HE := Lib.hid (wOf_none (fun i hi => HN.out i hi (by omega)))
      go_wp2_with fail
      go_ret
      exact ⟨by rw [HE.out]; rfl, hb⟩

theorem writer_any (g : Nat) (s : List (Nat × Bool)) (w : World) (h : Lk w g s) :
    Calls Try.prog 19 #[.pointer (some ⟨g, 0, none⟩)] w fun e w' => e = .returned (.int .i64 (wOf s)) ∧ Below w.heap.size w w' := by
  obtain ⟨A, c, c0, hs, hl⟩ := h
  have HI := Lib.hid (index_any s A c w hl hs)
  clear hs
  go_enter Try.func19, Try.ntmps19
  go_wp2_with fail
  refine (all_any g s A c _ c0).mono ?_
  rintro e wx ⟨rfl, hwx⟩
  obtain rfl := hwx.symm
  go_wp2_with fail
  refine HI.out.mono ?_
  rintro e wx ⟨rfl, hb⟩
  go_wp2_with fail
  go_ret
  exact ⟨rfl, hb⟩
theorem writer_nil (w : World) : Calls Try.prog 19 #[.pointer none] w fun e w' => e = .returned (.int .i64 (-1)) ∧ Below w.heap.size w w' := by
  have HI := Lib.hid (index_any [] none 0 w (by simp) (.inl rfl))
  go_enter Try.func19, Try.ntmps19
  go_wp2_with fail
  refine (all_nil _).mono ?_
  rintro e wx ⟨rfl, hwx⟩
  obtain rfl := hwx.symm
  go_wp2_with fail
  refine HI.out.mono ?_
  rintro e wx ⟨rfl, hb⟩
  go_wp2_with fail
  go_ret
  exact ⟨rfl, hb⟩

theorem frame20 {a : Act} (h : a.tmps.size = 20) (hd : a.defers = []) : ∃ u : Nat → Value, a = { tmps := #[u 0, u 1, u 2, u 3, u 4, u 5, u 6, u 7, u 8, u 9, u 10, u 11, u 12, u 13, u 14, u 15, u 16, u 17, u 18, u 19], defers := [] } ∧ ∀ n, a.tmps.getD n undef = u n := by
  refine ⟨fun n => a.tmps.getD n undef, ?_, fun _ => rfl⟩
  have h1 := arr_lit a.tmps h
  cases a with
  | mk t d =>
    simp only at hd h1
    subst hd
    congr 1
def RdJ (s : List (Nat × Bool)) (A : Option Addr) (cap : Nat) (w : World) (a : Act) (W : World) : Prop :=
  a.tmps.size = 20 ∧ a.defers = [] ∧ a.tmps.getD 7 undef = .slice A s.length cap ∧ a.tmps.getD 8 undef = .int .i64 s.length ∧
    ∃ k : Nat, a.tmps.getD 9 undef = .int .i64 k ∧ k ≤ s.length ∧ a.tmps.getD 3 undef = .int .i64 (rOf (s.take k)) ∧ Below w.heap.size w W

theorem rOf_take (s : List (Nat × Bool)) (k : Nat) (h : k < s.length) : rOf (s.take (k + 1)) = rOf (s.take k) + if s[k] = (2, true) then 1 else 0 := by
  unfold rOf
  rw [List.take_succ_eq_append_getElem h, List.count_append]
  congr 1
  simp [List.count_singleton]
theorem rOf_le (s : List (Nat × Bool)) (k : Nat) : rOf (s.take k) ≤ k := Nat.le_trans List.count_le_length (by rw [List.length_take]; omega)

set_option maxHeartbeats 1000000 in
theorem readers_of (p : Option Addr) (s : List (Nat × Bool)) (A : Option Addr) (c : Nat) (w : World) (hl : s.length ≤ 32) (hs : Sl w w.heap.size A (s.flatMap dA))
    (hall : Calls Try.prog 67 #[.pointer p] w fun e w' => e = .returned (.slice A s.length c) ∧ w' = w) :
    Calls Try.prog 21 #[.pointer p] w fun e w' => e = .returned (.int .i64 (rOf s)) ∧ Below w.heap.size w w' := by
  have HA := Lib.hid hall
  clear hall
  go_enter Try.func21, Try.ntmps21
  go_wp2_with fail
  refine (HA.out).mono ?_
  rintro e wx ⟨rfl, hwx⟩
  obtain rfl := hwx.symm
  go_wp2_with fail
  refine wp_loop (RdJ s A c w) (fun a' _ => s.length - (intOf (a'.tmps.getD 9 undef)).toNat) ?_ ?_
  · exact ⟨rfl, rfl, rfl, rfl, 0, rfl, Nat.zero_le _, rfl, Below.refl _ _⟩
  · rintro a' W ⟨hsz, hdf, s7, s8, k, s9, hk, s3, hb⟩
    obtain ⟨u, rfl, hu⟩ := frame20 hsz hdf
    rw [hu] at s7 s8 s9 s3
    simp only [s7, s8, s9, s3]
    clear hsz hdf s7 s8 s9 s3 hu
    have hle := rOf_le s k
    by_cases hlt : k < s.length
    · obtain ⟨b, off, rfl, hbb, hcell⟩ := Sl_at (k := 2) (fun _ => rfl) (by omega) (hs.step hb) (by omega)
      have h0 := hcell k hlt 0 (by omega)
      have h1 := hcell k hlt 1 (by omega)
      simp only [dA, List.getElem?_cons_zero, List.getElem?_cons_succ, Nat.add_zero, ← Nat.add_assoc] at h0 h1
      have hst := Lib.hid (rOf_take s k hlt)
      clear hcell
      have g1 := fun x y xs ys W => eqGAt x y xs ys W
      have hbx := hb.alloc hb.size (.cells #[.int .i64 s[k].1, .bool s[k].2] 106)
      generalize rOf (s.take k) = q at *
      by_cases hx : s[k] = (2, true)
      · have g2 := fun W => eqR s[k] 2 true true W (is2 hx)
        rw [if_pos hx] at hst
        clear hx
        go_wp2_with fail
        exact ⟨⟨rfl, rfl, rfl, rfl, k + 1, rfl, hlt, by rw [hst.out]; rfl, hbx⟩, by simp [intOf]; omega⟩
      · have g2 := fun W => eqR s[k] 2 true false W (no2 hx)
        rw [if_neg hx] at hst
        clear hx
        go_wp2_with fail
        exact ⟨⟨rfl, rfl, rfl, rfl, k + 1, rfl, hlt, by rw [hst.out]; rfl, hbx⟩, by simp [intOf]; omega⟩
    · have HE := Lib.hid (show rOf s = rOf (s.take k) by rw [List.take_of_length_le (by omega)])
      go_wp2_with fail
      go_ret
      exact ⟨by rw [HE.out]; rfl, hb⟩
theorem readers_any (g : Nat) (s : List (Nat × Bool)) (w : World) (h : Lk w g s) :
    Calls Try.prog 21 #[.pointer (some ⟨g, 0, none⟩)] w fun e w' => e = .returned (.int .i64 (rOf s)) ∧ Below w.heap.size w w' := by
  obtain ⟨A, c, c0, hs, hl⟩ := h
  exact readers_of _ s A c w hl hs (all_any g s A c w c0)
theorem readers_nil (w : World) : Calls Try.prog 21 #[.pointer none] w fun e w' => e = .returned (.int .i64 0) ∧ Below w.heap.size w w' :=
  readers_of _ [] none 0 w (by simp) (.inl rfl) (all_nil w)

theorem state_out (p : Option Addr) (s : List (Nat × Bool)) (A : Option Addr) (c : Nat) (t : Int) (w : World) (ht : t < 0 ∨ (s.length : Int) ≤ t)
    (hall : Calls Try.prog 67 #[.pointer p] w fun e w' => e = .returned (.slice A s.length c) ∧ w' = w) :
    Calls Try.prog 18 #[.pointer p, .int .i64 t] w fun e w' => e = .returned (.tuple #[.int .i64 0, .bool false]) ∧ Below w.heap.size w w' := by
  have HA := Lib.hid hall
  clear hall
  by_cases h0 : t < 0
  · go_enter Try.func18, Try.ntmps18
    go_wp2_with fail
    go_ret2
    exact ⟨rfl, Below.refl _ _⟩
  · have h1 : (s.length : Int) ≤ t := by omega
    go_enter Try.func18, Try.ntmps18
    go_wp2_with fail
    refine (HA.out).mono ?_
    rintro e wx ⟨rfl, hwx⟩
    obtain rfl := hwx.symm
    go_wp2_with fail
    go_ret2
    exact ⟨rfl, Below.refl _ _⟩
theorem state_any (g : Nat) (s : List (Nat × Bool)) (t : Int) (w : World) (h : Lk w g s) :
    Calls Try.prog 18 #[.pointer (some ⟨g, 0, none⟩), .int .i64 t] w fun e w' => e = .returned (.tuple #[.int .i64 (stOfT s t).1, .bool (stOfT s t).2]) ∧ Below w.heap.size w w' := by
  obtain ⟨A, c, c0, hs, hl⟩ := h
  by_cases ht : t < 0 ∨ (s.length : Int) ≤ t
  · have : stOfT s t = (0, false) := by
      unfold stOfT
      split
      · rw [List.getD_eq_getElem?_getD, List.getElem?_eq_none (by omega)]; rfl
      · rfl
    rw [this]
    exact state_out _ s A c t w ht (all_any g s A c w c0)
  · obtain ⟨k, rfl⟩ := Int.eq_ofNat_of_zero_le (show 0 ≤ t by omega)
    have hk : k < s.length := by omega
    have hst : stOfT s (k : Int) = s[k] := by simp [stOfT, hk]
    rw [hst]
    obtain ⟨b, off, rfl, hbb, hcell⟩ := Sl_at (k := 2) (fun _ => rfl) (by omega) hs (by omega)
    have h0 := hcell k hk 0 (by omega)
    have h1 := hcell k hk 1 (by omega)
    simp only [dA, List.getElem?_cons_zero, List.getElem?_cons_succ, Nat.add_zero, ← Nat.add_assoc] at h0 h1
    have hb := below_new w (.cells #[.int .i64 s[k].1, .bool s[k].2] 106)
    have h2 : (k : Int) < (s.length : Int) := by omega
    clear hcell hst ht
    go_enter Try.func18, Try.ntmps18
    go_wp2_with fail
    refine (all_any g s _ c _ c0).mono ?_
    rintro e wx ⟨rfl, hwx⟩
    obtain rfl := hwx.symm
    go_wp2_with fail
    go_quiet (fail)
    go_wp2_with fail
    go_ret2
    exact ⟨rfl, below_drewN hb _⟩
theorem state_nil (t : Int) (w : World) : Calls Try.prog 18 #[.pointer none, .int .i64 t] w fun e w' => e = .returned (.tuple #[.int .i64 0, .bool false]) ∧ Below w.heap.size w w' :=
  state_out _ [] none 0 t w (by simp; omega) (all_nil w)

def entersS (s : List (Nat × Bool)) (read : Bool) : Nat := if 0 ≤ wOf s ∨ (read = false ∧ 0 < rOf s) then 5 else 0
theorem enters_any (g : Nat) (s : List (Nat × Bool)) (read : Bool) (w : World) (h : Lk w g s) :
    Calls Try.prog 97 #[.pointer (some ⟨g, 0, none⟩), .bool read] w fun e w' => e = .returned (.int .i64 (entersS s read)) ∧ Below w.heap.size w w' := by
  unfold entersS
  by_cases h0 : 0 ≤ wOf s
  · rw [if_pos (.inl h0)]
    go_enter Try.func97, Try.ntmps97
    go_wp2_with fail
    refine (writer_any g s _ h).mono ?_
    rintro e wx ⟨rfl, hb⟩
    go_wp2_with fail
    go_ret
    exact ⟨rfl, hb⟩
  · have h0' : wOf s < 0 := by omega
    cases read
    · by_cases h1 : 0 < rOf s
      · have h1' : (0 : Int) < (rOf s : Int) := by omega
        rw [if_pos (.inr ⟨rfl, h1⟩)]
        go_enter Try.func97, Try.ntmps97
        go_wp2_with fail
        refine (writer_any g s _ h).mono ?_
        rintro e wx ⟨rfl, hb⟩
        go_wp2_with fail
        refine (readers_any g s _ (h.below hb)).mono ?_
        rintro e wy ⟨rfl, hb2⟩
        go_wp2_with fail
        go_ret
        exact ⟨rfl, hb.trans (hb2.mono hb.size)⟩
      · have h1' : ¬ (0 : Int) < (rOf s : Int) := by omega
        rw [if_neg (by rintro (q | ⟨_, q⟩); exact h0 q; exact h1 q)]
        go_enter Try.func97, Try.ntmps97
        go_wp2_with fail
        refine (writer_any g s _ h).mono ?_
        rintro e wx ⟨rfl, hb⟩
        go_wp2_with fail
        refine (readers_any g s _ (h.below hb)).mono ?_
        rintro e wy ⟨rfl, hb2⟩
        go_wp2_with fail
        go_ret
        exact ⟨rfl, hb.trans (hb2.mono hb.size)⟩
    · rw [if_neg (by rintro (q | ⟨q, _⟩); exact h0 q; cases q)]
      go_enter Try.func97, Try.ntmps97
      go_wp2_with fail
      refine (writer_any g s _ h).mono ?_
      rintro e wx ⟨rfl, hb⟩
      go_wp2_with fail
      go_ret
      exact ⟨rfl, hb⟩
end Go.Proofs.Ytfdcojhgpfmloaa.Sha
