/- Package shared: Do, whole; in a law. -/
import Derived.Test.YtfdcojhgpfmloaaSh4
namespace Go.Proofs.Ytfdcojhgpfmloaa.Sha
open Go.RowKit

theorem stOfT_in {s : List (Nat × Bool)} {k : Nat} (h : k < s.length) : stOfT s (k : Int) = s[k] := by simp [stOfT, h]
theorem do_any (g h : Nat) (s : List (Nat × Bool)) (e : Ev) (w : World) (H : ShIn w g h s) :
    Calls Try.prog 16 #[.pointer (some ⟨g, 0, none⟩), .agg (decE e).toArray] w fun r w' => r = .returned (.int .i64 (doS s e).1) ∧ ShIn w' g h (doS s e).2 ∧ Mod [h] w w' := by
  obtain ⟨kd, th, rd, ct⟩ := e
  change Calls Try.prog 16 #[.pointer (some ⟨g, 0, none⟩), .agg #[.int .i64 kd, .int .i64 th, .bool rd, .int .i64 ct]] w _
  unfold doS
  simp only
  by_cases k1 : kd < 0 ∨ 5 < kd
  · rw [if_pos k1]
    exact (do_kind _ kd th ct rd w k1).mono fun r w' ⟨h1, h2⟩ => ⟨h1, H.step h2, Mod.of_below h2⟩
  rw [if_neg k1]
  by_cases k0 : kd = 0 ∨ kd = 5
  · rw [if_pos k0]
    exact (do_free _ kd th ct rd w k0).mono fun r w' ⟨h1, h2⟩ => ⟨h1, H.step h2, Mod.of_below h2⟩
  rw [if_neg k0]
  by_cases hh : th < 0 ∨ (s.length : Int) ≤ th
  · rw [if_pos hh]
    obtain ⟨A, c, h1, h2, h3⟩ := H.lk
    exact (do_out _ s.length A c kd th ct rd w (by omega) hh (fun W hb => all_any g s A c W ((hb.cell (p := ⟨g, 0, none⟩) H.lt).trans h1))).mono fun r w' ⟨h1, h2⟩ => ⟨h1, H.step h2, Mod.of_below h2⟩
  rw [if_neg hh]
  obtain ⟨k, rfl⟩ := Int.eq_ofNat_of_zero_le (show 0 ≤ th by omega)
  have hl : k < s.length := by omega
  have hd := do_in g h k s ⟨kd, k, rd, ct⟩ w (by simp only; omega) H hl rfl
  refine hd.mono ?_
  rintro r w' ⟨rfl, h1, h2⟩
  simp only [Int.ofNat_eq_natCast, stOfT_in hl, Int.toNat_natCast]
  unfold aftS at h1
  by_cases hm : (movS s s[k] ⟨kd, k, rd, ct⟩).2 = 0
  · rw [if_pos hm] at h1
    rw [if_pos hm, hm]
    exact ⟨rfl, h1, h2⟩
  · rw [if_neg hm] at h1
    rw [if_neg hm]
    exact ⟨rfl, h1, h2⟩
theorem do_nil (e : Ev) (w : World) :
    Calls Try.prog 16 #[.pointer none, .agg (decE e).toArray] w fun r w' => r = .returned (.int .i64 (doS [] e).1) ∧ Below w.heap.size w w' := by
  obtain ⟨kd, th, rd, ct⟩ := e
  change Calls Try.prog 16 #[.pointer none, .agg #[.int .i64 kd, .int .i64 th, .bool rd, .int .i64 ct]] w _
  unfold doS
  simp only
  by_cases k1 : kd < 0 ∨ 5 < kd
  · rw [if_pos k1]
    exact do_kind _ kd th ct rd w k1
  rw [if_neg k1]
  by_cases k0 : kd = 0 ∨ kd = 5
  · rw [if_pos k0]
    exact do_free _ kd th ct rd w k0
  rw [if_neg k0]
  have hh : th < 0 ∨ (([] : List (Nat × Bool)).length : Int) ≤ th := by simp; omega
  rw [if_pos hh]
  exact do_out _ 0 none 0 kd th ct rd w (by omega) hh (fun W _ => all_nil W)
theorem do_len (s : List (Nat × Bool)) (e : Ev) : (doS s e).2.length = s.length := by
  unfold doS
  repeat' split
  all_goals simp

/-- In a law: a lock made behind W0, at s. -/
def At (B : Nat) (W0 W : World) (s : List (Nat × Bool)) : Prop := ShIn W (B + 1) B s ∧ B + 1 + 1 ≤ W.heap.size ∧ Below B W0 W
theorem At.base {B : Nat} {W0 W W' : World} {s : List (Nat × Bool)} (h : At B W0 W s) (hb : Below (B + 1 + 1) W W') : At B W0 W' s :=
  ⟨h.1.below hb (by omega) (by omega), Nat.le_trans h.2.1 hb.size, h.2.2.trans (hb.mono (by omega))⟩
theorem At.same {B : Nat} {W0 W W' : World} {s : List (Nat × Bool)} (h : At B W0 W s) (hb : Below W.heap.size W W') : At B W0 W' s := h.base (hb.mono h.2.1)
theorem At.alloc {B : Nat} {W0 W : World} {s : List (Nat × Bool)} (h : At B W0 W s) (o : Obj) : At B W0 (W.alloc o) s := h.same (below_new _ _)
theorem At.lk {B : Nat} {W0 W : World} {s : List (Nat × Bool)} (h : At B W0 W s) : Lk W (B + 1) s := h.1.lk

theorem new_any (t : Int) (w : World) (s : List (Nat × Bool)) (hs : zerosS (som t) = s) :
    Calls Try.prog 15 #[.int .i64 t] w fun e w' => e = .returned (.pointer (some ⟨w.heap.size + 1, 0, none⟩)) ∧ At w.heap.size w w' s := by
  subst hs
  refine (new_in t w).mono ?_
  rintro e w' ⟨rfl, h1, h2, h3⟩
  exact ⟨rfl, h1, by omega, h3⟩
theorem do_at (B : Nat) (W0 W : World) (s s' : List (Nat × Bool)) (e : Ev) (r : Int) (H : At B W0 W s) (h1 : ((doS s e).1 : Int) = r) (h2 : (doS s e).2 = s') :
    Calls Try.prog 16 #[.pointer (some ⟨B + 1, 0, none⟩), .agg (decE e).toArray] W fun x w' => x = .returned (.int .i64 r) ∧ At B W0 w' s' ∧ Mod [B] W w' := by
  subst h1 h2
  refine (do_any (B + 1) B s e W H.1).mono ?_
  rintro x w' ⟨rfl, hi, hm⟩
  exact ⟨rfl, ⟨hi, Nat.le_trans H.2.1 hm.size, hm.below_of H.2.2 (by have := H.2.1; omega) (by simp)⟩, hm⟩
theorem writer_at (B : Nat) (W0 W : World) (s : List (Nat × Bool)) (r : Int) (H : At B W0 W s) (h1 : wOf s = r) :
    Calls Try.prog 19 #[.pointer (some ⟨B + 1, 0, none⟩)] W fun x w' => x = .returned (.int .i64 r) ∧ Below W.heap.size W w' := by
  subst h1
  exact writer_any (B + 1) s W H.lk
theorem readers_at (B : Nat) (W0 W : World) (s : List (Nat × Bool)) (r : Int) (H : At B W0 W s) (h1 : (rOf s : Int) = r) :
    Calls Try.prog 21 #[.pointer (some ⟨B + 1, 0, none⟩)] W fun x w' => x = .returned (.int .i64 r) ∧ Below W.heap.size W w' := by
  subst h1
  exact readers_any (B + 1) s W H.lk
theorem state_at (B : Nat) (W0 W : World) (s : List (Nat × Bool)) (t : Int) (r : Int) (b : Bool) (H : At B W0 W s) (h1 : ((stOfT s t).1 : Int) = r) (h2 : (stOfT s t).2 = b) :
    Calls Try.prog 18 #[.pointer (some ⟨B + 1, 0, none⟩), .int .i64 t] W fun x w' => x = .returned (.tuple #[.int .i64 r, .bool b]) ∧ Below W.heap.size W w' := by
  subst h1 h2
  exact state_any (B + 1) s t W H.lk
end Go.Proofs.Ytfdcojhgpfmloaa.Sha
