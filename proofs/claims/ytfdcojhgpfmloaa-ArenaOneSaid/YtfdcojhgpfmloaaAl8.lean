/- Layer 1's law ArenaPlays: its walk. -/
import Derived.Test.YtfdcojhgpfmloaaAl7
namespace Go.Proofs.Ytfdcojhgpfmloaa.Ara
open Go.RowKit

theorem frame41 {a : Act} (h : a.tmps.size = 41) (hd : a.defers = []) : ∃ u : Nat → Value, a = { tmps := #[u 0, u 1, u 2, u 3, u 4, u 5, u 6, u 7, u 8, u 9, u 10, u 11, u 12, u 13, u 14, u 15, u 16, u 17, u 18, u 19, u 20, u 21, u 22, u 23, u 24, u 25, u 26, u 27, u 28, u 29, u 30, u 31, u 32, u 33, u 34, u 35, u 36, u 37, u 38, u 39, u 40], defers := [] } ∧ ∀ n, a.tmps.getD n undef = u n := by
  refine ⟨fun n => a.tmps.getD n undef, ?_, fun _ => rfl⟩
  have h1 := arr_lit a.tmps h
  cases a with
  | mk t d =>
    simp only at hd h1
    subst hd
    congr 1
theorem take_ops (σ : Ar) (n : Int) : (σ.take n).2.ops = σ.ops := by
  unfold Ar.take
  split
  · rfl
  · split <;> rfl
theorem op_ops (σ : Ar) (kind p v : Int) (wr : Bool) : (σ.op kind p wr v).ops ≤ σ.ops + 1 := by
  unfold Ar.op
  split
  · exact Nat.le_refl _
  · exact Nat.le_succ _
theorem act_ops (σ : Ar) (x : Ac) : (actS σ x).ops ≤ σ.ops + 1 := by
  unfold actS
  split
  · rw [take_ops]; exact Nat.le_succ _
  · repeat (split; exact op_ops _ _ _ _ _)
    exact Nat.le_succ _
theorem alk_fresh (m : Nat) : Alk (Ar.fresh m) ⟨m, [], 0, 0, 0, false⟩ := by
  refine ⟨?_, ?_, Nat.zero_le _, ?_, rfl, rfl, rfl, rfl⟩
  · simp [Ar.fresh, zerosW]
  · simp [Ar.fresh]
  · intro i _
    simp [Ar.fresh, zerosW, List.getD_eq_getElem?_getD, List.getElem?_replicate]
    split <;> rfl
def ApJ (l : List Ac) (A : Option Addr) (cap : Nat) (w : World) (a : Act) (W : World) : Prop :=
  a.tmps.size = 41 ∧ a.defers = [] ∧ a.tmps.getD 1 undef = .slice A l.length cap ∧ a.tmps.getD 5 undef = .pointer (some ⟨w.heap.size + 1, 0, none⟩) ∧ a.tmps.getD 6 undef = .pointer (some ⟨w.heap.size + 1 + 1, 0, none⟩) ∧
    ∃ (k : Nat) (σ : Ar), a.tmps.getD 7 undef = .int .i64 k ∧ k ≤ l.length ∧ σ.ops ≤ k ∧ SysE (some ⟨w.heap.size + 1, 0, none⟩) (w.heap.size + 1) w.heap.size (w.heap.size + 1 + 1) (w.heap.size + 1 + 1 + 1) W σ ∧ Below w.heap.size w W

set_option maxHeartbeats 4000000 in
set_option maxRecDepth 100000 in
theorem plays_walk (t : Int) (l : List Ac) (A : Option Addr) (cap : Nat) (w : World) (hcm : l.length ≤ 9223372036854775807) (hs : Sl w w.heap.size A (l.flatMap decAc)) :
    Calls Try.prog 6 #[.int .i64 t, .slice A l.length cap] w fun e w' => e = .returned (.bool true) ∧ Below w.heap.size w w' := by
  by_cases hle : l.length ≤ 60
  · have i1 : ¬ (60 : Int) < (l.length : Int) := by omega
    by_cases hle2 : t ≤ 100
    · have i2 : ¬ (100 : Int) < t := by omega
      go_enter Try.func6, Try.ntmps6
      go_wp2_with fail
      refine (new_in t _).mono ?_
      rintro e w1 ⟨rfl, hat, hz, hb⟩
      go_wp2_with fail
      refine (rnew_any t _).mono ?_
      rintro e w2 ⟨rfl, hr, hz2, hb2⟩
      have hS0 : SysE (some ⟨w.heap.size + 1, 0, none⟩) (w.heap.size + 1) w.heap.size (w.heap.size + 1 + 1) (w.heap.size + 1 + 1 + 1) w2 (Ar.fresh (room t)) := by
        refine ⟨_, .inl ⟨rfl, hat.step hb2⟩, ?_, alk_fresh _, by intro x hx; simp [ms] at hx; omega⟩
        rw [hz] at hr
        exact hr
      have HS := Lib.hid hS0
      have hB : Below w.heap.size w w2 := hb.trans (hb2.mono (by omega))
      rw [hz]
      clear hS0 hr hz hz2 hb hb2 hat
      go_wp2_with fail
      refine wp_loop (ApJ l A cap w) (fun a' _ => l.length - (intOf (a'.tmps.getD 7 undef)).toNat) ?_ ?_
      · exact ⟨rfl, rfl, rfl, rfl, rfl, 0, _, rfl, Nat.zero_le _, Nat.le_refl _, HS.out, hB⟩
      · clear HS hB
        rintro a' W ⟨hsz, hdf, s1, s5, s6, k, σ, s7, hk, ho, hsys, hB⟩
        obtain ⟨u, rfl, hu⟩ := frame41 hsz hdf
        rw [hu] at s1 s5 s6 s7
        simp only [s1, s5, s6, s7]
        clear hsz hdf s1 s5 s6 s7 hu
        by_cases hlt : k < l.length
        · obtain ⟨b, off, rfl, hbb, hcell⟩ := Sl_at (k := 4) (fun _ => rfl) (by omega) (hs.below hB) (by omega)
          have h0 := hcell k hlt 0 (by omega)
          have h1 := hcell k hlt 1 (by omega)
          have h2 := hcell k hlt 2 (by omega)
          have h3 := hcell k hlt 3 (by omega)
          simp only [decAc, List.getElem?_cons_zero, List.getElem?_cons_succ, Nat.add_zero, ← Nat.add_assoc] at h0 h1 h2 h3
          have HO := Lib.hid (Nat.le_trans (act_ops σ l[k]) (Nat.succ_le_succ ho))
          clear hcell
          go_wp2_with fail
          refine (do_any _ _ _ _ _ σ _ hsys (by omega) l[k]).mono ?_
          rintro e W1 ⟨rfl, ⟨ρ, hsy1⟩, hup⟩
          have hB1 := hB.trans (hup.below (B' := w.heap.size) (by omega) (by simp [ms]; omega))
          clear h0 h1 h2 h3 hsys hup
          generalize actS σ l[k] = σ1 at *
          go_wp2_with fail
          refine (same_sys _ _ _ _ _ σ1 ρ _ hsy1).mono ?_
          rintro e W2 ⟨rfl, hb2⟩
          have hsy2 := hsy1.step hb2
          have hB2 := hB1.trans (hb2.mono hB1.size)
          clear hsy1 hb2 hB1 hB
          go_wp2_with fail
          exact ⟨⟨rfl, rfl, rfl, rfl, rfl, k + 1, σ1, rfl, hlt, HO.out, ⟨ρ, hsy2⟩, hB2⟩, by simp [intOf]; omega⟩
        · clear hsys
          go_wp2_with fail
          refine (awake_any _).mono ?_
          rintro e W3 ⟨rfl, hb⟩
          go_wp2_with fail
          go_ret
          exact ⟨rfl, hB.trans (hb.mono hB.size)⟩
    · have i2 : (100 : Int) < t := by omega
      go_enter Try.func6, Try.ntmps6
      go_wp2_with fail
      refine (awake_any _).mono ?_
      rintro e W3 ⟨rfl, hb⟩
      go_wp2_with fail
      go_ret
      exact ⟨rfl, hb⟩
  · have i1 : (60 : Int) < (l.length : Int) := by omega
    go_enter Try.func6, Try.ntmps6
    go_wp2_with fail
    refine (awake_any _).mono ?_
    rintro e W3 ⟨rfl, hb⟩
    go_wp2_with fail
    go_ret
    exact ⟨rfl, hb⟩
theorem reads_act {H : Type} {enc : TypeId × Value → H} : Reads enc Try.prog 54 decAc (fun e => isI64 e.kind ∧ isI64 e.pos ∧ isI64 e.a ∧ isI64 e.b) :=
  (reads_s4 (d0 := Value.int .i64) (d1 := Value.int .i64) (d2 := Value.int .i64) (d3 := Value.int .i64) Try.underlying54 (by kernel_rfl) (by kernel_rfl) (reads_i64 Try.underlying3) (reads_i64 Try.underlying3) (reads_i64 Try.underlying3) (reads_i64 Try.underlying3)).map
    (fun p => ⟨p.1, p.2.1, p.2.2.1, p.2.2.2⟩) (fun _ => rfl) (fun _ h => h)
theorem plays_law (w : World) (t : Int) (_h0 : isI64 t) (A : Option Addr) (c : Nat) (l : List Ac) (hc : l.length ≤ c) (hm : c ≤ maxLen) (_w0 : ∀ e ∈ l, isI64 e.kind ∧ isI64 e.pos ∧ isI64 e.a ∧ isI64 e.b) (hs : Sl w w.heap.size A (l.flatMap decAc)) :
    Calls Try.prog 6 #[.int .i64 t, .slice A l.length c] w fun e w' => e = .returned (.bool true) ∧ Below w.heap.size w w' := plays_walk t l A c w (by simp only [maxLen] at hm; omega) hs
end Go.Proofs.Ytfdcojhgpfmloaa.Ara
