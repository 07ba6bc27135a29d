/- Walks of package tenure and its reference: the small functions. -/
import Derived.Test.YtmldkfmebplblaaOpen
namespace Go.Proofs.Ytmldkfmebplblaa.Ten
open Go.RowKit

structure Ev where
  kind : Int
  thread : Int
  read : Bool
  count : Int
structure Rn where
  node : Int
  frm : Int
  many : Int
  deriving DecidableEq
def decEv (e : Ev) : List Value := [.int .i64 e.kind, .int .i64 e.thread, .bool e.read, .int .i64 e.count]
def decRn (r : Rn) : List Value := [.int .i64 r.node, .int .i64 r.frm, .int .i64 r.many]
def decI (n : Int) : List Value := [.int .i64 n]

def nodeOf (l : List Int) (t : Int) : Int := if 0 ≤ t ∧ t < l.length then l.getD t.toNat 0 else -1

theorem node_any (l : List Int) (A : Option Addr) (cap : Nat) (t : Int) (B : Nat) (w : World) (hc : l.length ≤ cap) (hm : cap ≤ maxLen) (hs : Sl w B A (l.flatMap decI)) :
    Calls Try.prog 31 #[.slice A l.length cap, .int .i64 t] w fun e w' => e = .returned (.int .i64 (nodeOf l t)) ∧ w' = w := by
  by_cases h : 0 ≤ t ∧ t < l.length
  · obtain ⟨h0, h1⟩ := h
    rw [show nodeOf l t = l.getD t.toNat 0 by simp [nodeOf, h0, h1]]
    obtain ⟨k, rfl⟩ := Int.eq_ofNat_of_zero_le h0
    have hk : k < l.length := by omega
    obtain ⟨b, off, rfl, _, hcell⟩ := Sl_at (k := 1) (fun _ => rfl) (by omega) hs (by omega)
    have h2 := hcell k hk 0 (by omega)
    simp only [Nat.mul_one, Nat.add_zero, decI, List.getElem?_cons_zero] at h2
    rw [show l.getD (Int.toNat (k : Int)) 0 = l[k] by simp [hk]]
    clear hcell hs hc hm
    go_enter Try.func31, Try.ntmps31
    go_wp2
    go_ret
    exact ⟨rfl, rfl⟩
  · rw [show nodeOf l t = -1 by simp only [nodeOf, if_neg h]]
    by_cases h0 : t < 0
    · go_enter Try.func31, Try.ntmps31
      go_wp2
      go_ret
      exact ⟨rfl, rfl⟩
    · have h1 : (l.length : Int) ≤ t := by omega
      clear h
      go_enter Try.func31, Try.ntmps31
      go_wp2
      go_ret
      exact ⟨rfl, rfl⟩

def mx (a b : Int) : Int := if a < b then b else a
def longest (l : List Rn) : Int := l.foldl (fun m r => mx m r.many) 0
theorem fold_snoc (l : List Rn) (k : Nat) (h : k < l.length) : longest (l.take (k + 1)) = mx (longest (l.take k)) l[k].many := by
  unfold longest
  rw [List.take_succ_eq_append_getElem h, List.foldl_append]
  rfl

set_option maxHeartbeats 400000 in
theorem longest_any (l : List Rn) (A : Option Addr) (cap : Nat) (w : World) (hm : l.length ≤ 9223372036854775807) (hs : Sl w w.heap.size A (l.flatMap decRn)) :
    Calls Try.prog 29 #[.slice A l.length cap] w fun e w' => e = .returned (.int .i64 (longest l)) ∧ Below w.heap.size w w' := by
  go_enter Try.func29, Try.ntmps29
  go_wp2
  go_loopw [3, 8] (fun m i wr => ∃ k : Nat, k ≤ l.length ∧ i = .int .i64 k ∧ m = .int .i64 (longest (l.take k)) ∧ Below w.heap.size w wr) (fun _ i _ => l.length - (intOf i).toNat)
  case atStart => exact ⟨0, by omega, rfl, rfl, Below.refl _ _⟩
  case round =>
    obtain ⟨k, hk, rfl, rfl, hb⟩ := hrel
    by_cases hlt : k < l.length
    · have hf := Lib.hid (fold_snoc l k hlt)
      obtain ⟨b, off, rfl, hbb, hcell⟩ := Sl_at (k := 3) (fun _ => rfl) (by omega) (hs.below hb) (by omega)
      have h0 := hcell k hlt 0 (by omega)
      have h1 := hcell k hlt 1 (by omega)
      have h2 := hcell k hlt 2 (by omega)
      simp only [decRn, List.getElem?_cons_zero, List.getElem?_cons_succ, Nat.add_zero, ← Nat.add_assoc] at h0 h1 h2
      clear hcell
      generalize l[k] = r at h0 h1 h2 hf
      generalize longest (l.take k) = m at hf ⊢
      go_wp2
      go_roundw
      case rel => exact ⟨k + 1, by omega, by go_num, by rw [hf.out]; rfl, hb.alloc hb.size _⟩
      case measure => simp [intOf]; omega
    · go_wp2
      go_ret
      exact ⟨by rw [List.take_of_length_le (by omega)]; rfl, hb⟩

theorem rnode_any (l : List Int) (A : Option Addr) (cap : Nat) (t : Int) (B : Nat) (w : World) (hm : l.length ≤ 9223372036854775807) (hs : Sl w B A (l.flatMap decI)) :
    Calls Try.prog 32 #[.slice A l.length cap, .int .i64 t] w fun e w' => e = .returned (.int .i64 (nodeOf l t)) ∧ w' = w := by
  go_enter Try.func32, Try.ntmps32
  go_wp2
  go_loop [5] (fun i => ∃ k : Nat, k ≤ l.length ∧ i = .int .i64 k ∧ (0 ≤ t → k ≤ t)) (fun i => l.length - (intOf i).toNat)
  case atStart => exact ⟨0, by omega, rfl, by omega⟩
  case round =>
    obtain ⟨k, hk, rfl, hkt⟩ := hrel
    by_cases hlt : k < l.length
    · by_cases he : (k : Int) = t
      · obtain ⟨b, off, rfl, hbb, hcell⟩ := Sl_at (k := 1) (fun _ => rfl) (by omega) hs (by omega)
        have h0 := hcell k hlt 0 (by omega)
        simp only [decI, List.getElem?_cons_zero, Nat.add_zero, Nat.mul_one] at h0
        have hn := Lib.hid (show nodeOf l t = l[k] by
          subst he
          simp [nodeOf, hlt])
        clear hcell hs
        have hbq : ((k : Int) == t) = true := by simpa using he
        clear he
        go_wp2
        go_ret
        exact ⟨by rw [hn.out]; rfl, rfl⟩
      · have hbq : ((k : Int) == t) = false := by simpa using he
        go_wp2
        go_round
        case rel => exact ⟨k + 1, by omega, by go_num, by omega⟩
        case measure => simp [intOf]; omega
    · have hn := Lib.hid (show nodeOf l t = -1 by
        simp only [nodeOf]
        rw [if_neg]
        omega)
      go_wp2
      go_ret
      exact ⟨by rw [hn.out]; rfl, rfl⟩

set_option maxHeartbeats 400000 in
theorem rlongest_any (l : List Rn) (A : Option Addr) (cap : Nat) (w : World) (hm : l.length ≤ 9223372036854775807) (hs : Sl w w.heap.size A (l.flatMap decRn)) :
    Calls Try.prog 30 #[.slice A l.length cap] w fun e w' => e = .returned (.int .i64 (longest l)) ∧ Below w.heap.size w w' := by
  go_enter Try.func30, Try.ntmps30
  go_wp2
  go_loopw [3, 4] (fun m i wr => ∃ k : Nat, k ≤ l.length ∧ i = .int .i64 k ∧ m = .int .i64 (longest (l.take k)) ∧ Below w.heap.size w wr) (fun _ i _ => l.length - (intOf i).toNat)
  case atStart => exact ⟨0, by omega, rfl, rfl, Below.refl _ _⟩
  case round =>
    obtain ⟨k, hk, rfl, rfl, hb⟩ := hrel
    by_cases hlt : k < l.length
    · have hf := Lib.hid (fold_snoc l k hlt)
      obtain ⟨b, off, rfl, hbb, hcell⟩ := Sl_at (k := 3) (fun _ => rfl) (by omega) (hs.below hb) (by omega)
      have h0 := hcell k hlt 0 (by omega)
      have h1 := hcell k hlt 1 (by omega)
      have h2 := hcell k hlt 2 (by omega)
      simp only [decRn, List.getElem?_cons_zero, List.getElem?_cons_succ, Nat.add_zero, ← Nat.add_assoc] at h0 h1 h2
      clear hcell
      generalize l[k] = r at h0 h1 h2 hf
      generalize longest (l.take k) = m at hf ⊢
      by_cases hmx : m < r.many
      · go_wp2
        go_roundw
        case rel => exact ⟨k + 1, by omega, by go_num, by rw [hf.out, mx, if_pos hmx], hb⟩
        case measure => simp [intOf]; omega
      · go_wp2
        go_roundw
        case rel => exact ⟨k + 1, by omega, by go_num, by rw [hf.out, mx, if_neg hmx], hb⟩
        case measure => simp [intOf]; omega
    · go_wp2
      go_ret
      exact ⟨by rw [List.take_of_length_le (by omega)]; rfl, hb⟩
end Go.Proofs.Ytmldkfmebplblaa.Ten
