/- The law FairSays: its walk. -/
import Derived.Test.YtmldkfmebplblaaFair8
import Derived.Deep.RegionHeld3
namespace Go.Proofs.Ytmldkfmebplblaa.Fai
open Go.RowKit

/-- What is held through the region: the boxes of the arguments, and the script. -/
theorem held_step {B b1 b2 : Nat} {x0 x1 y0 y1 : Value} {A : Option Addr} {xs : List Value} {w W W' : World} (hb : Below W.heap.size W W')
    (h : Below B w W ∧ B ≤ W.heap.size ∧ (b1 < W.heap.size ∧ b2 < W.heap.size) ∧ Sl W W.heap.size A xs ∧ W.cell? ⟨b1, 0, none⟩ = some x0 ∧ W.cell? ⟨b1, 1, none⟩ = some x1 ∧ W.cell? ⟨b2, 0, none⟩ = some y0 ∧ W.cell? ⟨b2, 1, none⟩ = some y1) :
    Below B w W' ∧ B ≤ W'.heap.size ∧ (b1 < W'.heap.size ∧ b2 < W'.heap.size) ∧ Sl W' W'.heap.size A xs ∧ W'.cell? ⟨b1, 0, none⟩ = some x0 ∧ W'.cell? ⟨b1, 1, none⟩ = some x1 ∧ W'.cell? ⟨b2, 0, none⟩ = some y0 ∧ W'.cell? ⟨b2, 1, none⟩ = some y1 := by
  obtain ⟨h1, h2, ⟨h3, h4⟩, h5, c1, c2, c3, c4⟩ := h
  have hs := hb.size
  exact ⟨h1.trans (hb.mono h2), by omega, ⟨by omega, by omega⟩, h5.step hb, (hb.cell (p := ⟨b1, 0, none⟩) h3).trans c1, (hb.cell (p := ⟨b1, 1, none⟩) h3).trans c2, (hb.cell (p := ⟨b2, 0, none⟩) h4).trans c3, (hb.cell (p := ⟨b2, 1, none⟩) h4).trans c4⟩

theorem held_sl {B b1 b2 : Nat} {x0 x1 y0 y1 : Value} {A : Option Addr} {xs : List Value} {w W : World}
    (h : Below B w W ∧ B ≤ W.heap.size ∧ (b1 < W.heap.size ∧ b2 < W.heap.size) ∧ Sl W W.heap.size A xs ∧ W.cell? ⟨b1, 0, none⟩ = some x0 ∧ W.cell? ⟨b1, 1, none⟩ = some x1 ∧ W.cell? ⟨b2, 0, none⟩ = some y0 ∧ W.cell? ⟨b2, 1, none⟩ = some y1) : Sl W W.heap.size A xs := h.2.2.2.1

theorem held_below {B b1 b2 : Nat} {x0 x1 y0 y1 : Value} {A : Option Addr} {xs : List Value} {w W : World}
    (h : Below B w W ∧ B ≤ W.heap.size ∧ (b1 < W.heap.size ∧ b2 < W.heap.size) ∧ Sl W W.heap.size A xs ∧ W.cell? ⟨b1, 0, none⟩ = some x0 ∧ W.cell? ⟨b1, 1, none⟩ = some x1 ∧ W.cell? ⟨b2, 0, none⟩ = some y0 ∧ W.cell? ⟨b2, 1, none⟩ = some y1) : Below B w W := h.1

theorem of_same {P : Program} {f : FuncId} {args : Array Value} {w : World} {e0 : Ending} (h : Calls P f args w fun e w' => e = e0 ∧ w' = w) : Calls P f args w fun e w' => e = e0 ∧ Below w.heap.size w w' :=
  h.mono fun _ _ ⟨h1, h2⟩ => ⟨h1, by rw [h2]; exact Below.refl _ _⟩

section
variable (l : List Int) (A : Option Addr) (cap : Nat) (t k : Int) (w : World)
theorem rfair_b (hm : l.length ≤ 65536) (hcap : l.length ≤ cap) (hcm : cap ≤ maxLen) (hk64 : isI64 k) (hs : Sl w w.heap.size A (l.flatMap decI)) :
    Calls Try.prog 36 #[.slice A l.length cap, .int .i64 t, .int .i64 k] w fun e w' => e = .returned (.bool (fairB l t k)) ∧ Below w.heap.size w w' := of_same (rfair_any l A cap t k _ w hm hcap hcm hk64 hs)
theorem rleast_b (hm : l.length ≤ 65536) (hcap : l.length ≤ cap) (hcm : cap ≤ maxLen) (hs : Sl w w.heap.size A (l.flatMap decI)) :
    Calls Try.prog 38 #[.slice A l.length cap, .int .i64 t] w fun e w' => e = .returned (.int .i64 (longest (som t) l + 1)) ∧ Below w.heap.size w w' := of_same (rleast_any l A cap t _ w hm hcap hcm hs)
theorem own_b (hm : l.length ≤ 65536) (hs : Sl w w.heap.size A (l.flatMap decI)) :
    Calls Try.prog 39 #[.slice A l.length cap, .int .i64 t, .int .i64 k] w fun e w' => e = .returned (.int .i64 (own l t k)) ∧ Below w.heap.size w w' := of_same (own_any l A cap t k _ w (by omega) hs)
theorem rown_b (hm : l.length ≤ 65536) (hs : Sl w w.heap.size A (l.flatMap decI)) :
    Calls Try.prog 40 #[.slice A l.length cap, .int .i64 t, .int .i64 k] w fun e w' => e = .returned (.int .i64 (own l t k)) ∧ Below w.heap.size w w' := of_same (rown_any l A cap t k _ w (by omega) hs)
end

set_option maxHeartbeats 4000000 in
theorem says_walk (l : List Int) (A : Option Addr) (cap : Nat) (n k p q : Int) (w : World) (hc : l.length ≤ cap) (hm : cap ≤ maxLen) (hk64 : isI64 k) (hs : Sl w w.heap.size A (l.flatMap decI)) :
    Calls Try.prog 8 #[.slice A l.length cap, .agg #[.int .i64 n, .int .i64 k], .agg #[.int .i64 p, .int .i64 q]] w fun e w' => e = .returned (.bool true) ∧ Below w.heap.size w w' := by
  have hm3 : l.length ≤ 9223372036854775807 := by simp only [maxLen] at hm; omega
  have HK := Lib.hid hk64
  clear hk64
  by_cases hle : l.length ≤ 60
  · have i1 : ¬ (60 : Int) < (l.length : Int) := by omega
    have hl65 : l.length ≤ 65536 := by omega
    have hs2 := (hs.push (.cells #[.int .i64 n, .int .i64 k] 50)).push (.cells #[.int .i64 p, .int .i64 q] 50)
    have hb2 : Below w.heap.size w ((w.alloc (.cells #[.int .i64 n, .int .i64 k] 50)).alloc (.cells #[.int .i64 p, .int .i64 q] 50)) := ((Below.refl _ _).alloc (Nat.le_refl _) _).alloc (by simp) _
    have c0 : ((w.alloc (.cells #[.int .i64 n, .int .i64 k] 50)).alloc (.cells #[.int .i64 p, .int .i64 q] 50)).cell? ⟨w.heap.size, 0, none⟩ = some (.int .i64 n) := by rw [World.cell?_alloc_past _ _ _ (by simp), World.cell?_alloc_at _ _ _ _ rfl]; rfl
    have c1 : ((w.alloc (.cells #[.int .i64 n, .int .i64 k] 50)).alloc (.cells #[.int .i64 p, .int .i64 q] 50)).cell? ⟨w.heap.size, 1, none⟩ = some (.int .i64 k) := by rw [World.cell?_alloc_past _ _ _ (by simp), World.cell?_alloc_at _ _ _ _ rfl]; rfl
    have c2 : ((w.alloc (.cells #[.int .i64 n, .int .i64 k] 50)).alloc (.cells #[.int .i64 p, .int .i64 q] 50)).cell? ⟨w.heap.size + 1, 0, none⟩ = some (.int .i64 p) := by rw [World.cell?_alloc_at _ _ _ _ (by simp)]; rfl
    have c3 : ((w.alloc (.cells #[.int .i64 n, .int .i64 k] 50)).alloc (.cells #[.int .i64 p, .int .i64 q] 50)).cell? ⟨w.heap.size + 1, 1, none⟩ = some (.int .i64 q) := by rw [World.cell?_alloc_at _ _ _ _ (by simp)]; rfl
    have hz : ((w.alloc (.cells #[.int .i64 n, .int .i64 k] 50)).alloc (.cells #[.int .i64 p, .int .i64 q] 50)).heap.size = w.heap.size + 1 + 1 := by simp
    go_enter Try.func8, Try.ntmps8
    go_wp2_with fail
    generalize (w.alloc (.cells #[.int .i64 n, .int .i64 k] 50)).alloc (.cells #[.int .i64 p, .int .i64 q] 50) = w2 at *
    have d1 : w.heap.size < w2.heap.size := by omega
    have d2 : w.heap.size + 1 < w2.heap.size := by omega
    have d3 : w.heap.size ≤ w2.heap.size := by omega
    clear hz
    generalize w.heap.size + 1 = b2 at *
    have HS0 : Below w.heap.size w w2.drew ∧ w.heap.size ≤ w2.drew.heap.size ∧ (w.heap.size < w2.drew.heap.size ∧ b2 < w2.drew.heap.size) ∧ Sl w2.drew w2.drew.heap.size A (l.flatMap decI) ∧ w2.drew.cell? ⟨w.heap.size, 0, none⟩ = some (.int .i64 n) ∧ w2.drew.cell? ⟨w.heap.size, 1, none⟩ = some (.int .i64 k) ∧ w2.drew.cell? ⟨b2, 0, none⟩ = some (.int .i64 p) ∧ w2.drew.cell? ⟨b2, 1, none⟩ = some (.int .i64 q) := ⟨Below.drew hb2, d3, ⟨d1, d2⟩, hs2, c0, c1, c2, c3⟩
    go_region_held3 (fun W => Below w.heap.size w W ∧ w.heap.size ≤ W.heap.size ∧ (w.heap.size < W.heap.size ∧ b2 < W.heap.size) ∧ Sl W W.heap.size A (l.flatMap decI) ∧ W.cell? ⟨w.heap.size, 0, none⟩ = some (.int .i64 n) ∧ W.cell? ⟨w.heap.size, 1, none⟩ = some (.int .i64 k) ∧ W.cell? ⟨b2, 0, none⟩ = some (.int .i64 p) ∧ W.cell? ⟨b2, 1, none⟩ = some (.int .i64 q))
      (first | exact ⟨Below.drew hb2, d3, ⟨d1, d2⟩, hs2, c0, c1, c2, c3⟩ | exact held_step ‹_› ‹_›)
      (first
        | (go_at_call 35; refine (fair_any l A cap n k _ hl65 ?_).mono ?_; (first | assumption | exact held_sl (by assumption)); rintro e w' ⟨rfl, hbb⟩)
        | (go_at_call 36; refine (rfair_b l A cap n k _ hl65 hc hm HK.out ?_).mono ?_; (first | assumption | exact held_sl (by assumption)); rintro e w' ⟨rfl, hbb⟩)
        | (go_at_call 37; refine (least_any l A cap n _ hl65 ?_).mono ?_; (first | assumption | exact held_sl (by assumption)); rintro e w' ⟨rfl, hbb⟩)
        | (go_at_call 38; refine (rleast_b l A cap n _ hl65 hc hm ?_).mono ?_; (first | assumption | exact held_sl (by assumption)); rintro e w' ⟨rfl, hbb⟩)
        | (go_at_call 39; refine (own_b l A cap p q _ hl65 ?_).mono ?_; (first | assumption | exact held_sl (by assumption)); rintro e w' ⟨rfl, hbb⟩)
        | (go_at_call 40; refine (rown_b l A cap p q _ hl65 ?_).mono ?_; (first | assumption | exact held_sl (by assumption)); rintro e w' ⟨rfl, hbb⟩)
        | (go_at_call 34; refine (awake_any _).mono ?_; rintro e w' ⟨rfl, hbb⟩))
    go_wp2
    go_ret
    exact ⟨rfl, held_below (by assumption)⟩
  · have i1 : (60 : Int) < (l.length : Int) := by omega
    go_enter Try.func8, Try.ntmps8
    go_wp2_with (go_at_call 34; refine (awake_any _).mono ?_; rintro e w' ⟨rfl, hb⟩)
    go_ret
    exact ⟨rfl, (((Below.refl _ _).alloc (Nat.le_refl _) _).alloc (by simp) _).trans (hb.mono (by simp; omega))⟩

theorem says_law (w : World) (A : Option Addr) (cap : Nat) (l : List Int) (hc : l.length ≤ cap) (hm : cap ≤ maxLen) (_w0 : ∀ x ∈ l, isI64 x) (hs : Sl w w.heap.size A (l.flatMap decI))
    (n : List Int) (hn : n.length = 2 ∧ ∀ a ∈ n, isI64 a) (p : List Int) (hp : p.length = 2 ∧ ∀ a ∈ p, isI64 a) :
    Calls Try.prog 8 #[.slice A l.length cap, .agg (n.flatMap decI).toArray, .agg (p.flatMap decI).toArray] w fun e w' => e = .returned (.bool true) ∧ Below w.heap.size w w' := by
  obtain ⟨hn, hn2⟩ := hn
  obtain ⟨a, b, rfl⟩ := list2 hn
  obtain ⟨c, d, rfl⟩ := list2 hp.1
  exact says_walk l A cap a b c d w hc hm (hn2 b (by simp)) hs
end Go.Proofs.Ytmldkfmebplblaa.Fai
