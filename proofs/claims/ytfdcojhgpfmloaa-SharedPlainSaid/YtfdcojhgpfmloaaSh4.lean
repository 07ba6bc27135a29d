/- Package shared: New, Do. -/
import Derived.Test.YtfdcojhgpfmloaaSh3
namespace Go.Proofs.Ytfdcojhgpfmloaa.Sha
open Go.RowKit

def boxE (e : Ev) : Obj := .cells #[.int .i64 e.kind, .int .i64 e.thread, .bool e.read, .int .i64 e.count] 29 (0, 0)
def doS (s : List (Nat × Bool)) (e : Ev) : Nat × List (Nat × Bool) :=
  if e.kind < 0 ∨ 5 < e.kind then (7, s) else if e.kind = 0 ∨ e.kind = 5 then (0, s) else if e.thread < 0 ∨ (s.length : Int) ≤ e.thread then (4, s)
  else if (movS s (stOfT s e.thread) e).2 = 0 then (0, s.set e.thread.toNat (movS s (stOfT s e.thread) e).1) else ((movS s (stOfT s e.thread) e).2, s)

theorem new_in (t : Int) (w : World) :
    Calls Try.prog 15 #[.int .i64 t] w fun e w' => e = .returned (.pointer (some ⟨w.heap.size + 1, 0, none⟩)) ∧ ShIn w' (w.heap.size + 1) w.heap.size (zerosS (som t)) ∧ w'.heap.size = w.heap.size + 1 + 1 ∧ Below w.heap.size w w' := by
  have hfin : ∀ c, c ≤ 32 → Hid (ShIn ((w.alloc (.cells ((zerosS c).flatMap dA).toArray 106)).alloc (.cells #[.slice (some ⟨w.heap.size, 0, none⟩) c c] 44)) (w.heap.size + 1) w.heap.size (zerosS c) ∧
      ((w.alloc (.cells ((zerosS c).flatMap dA).toArray 106)).alloc (.cells #[.slice (some ⟨w.heap.size, 0, none⟩) c c] 44)).heap.size = w.heap.size + 1 + 1 ∧
      Below w.heap.size w ((w.alloc (.cells ((zerosS c).flatMap dA).toArray 106)).alloc (.cells #[.slice (some ⟨w.heap.size, 0, none⟩) c c] 44))) := fun c hc => by
    have hl : (zerosS c).length = c := by simp [zerosS]
    refine Lib.hid ⟨⟨by rw [hl]; exact hc, some ⟨w.heap.size, 0, none⟩, c, ?_, .inr ⟨rfl, by omega, ?_⟩⟩, by simp, (below_new _ _).alloc (by simp) _⟩
    · rw [hl]
      exact heap_alloc2_new _ _ _
    · exact heap_alloc2_old _ _ _
  by_cases h0 : t ≤ 0
  · rw [show som t = 0 by unfold som; by_cases h : t < 0; rw [if_pos h]; rw [if_neg h, if_neg (by omega)]; omega]
    have hf := hfin 0 (by omega)
    clear hfin
    have hmk : ∀ W, (Instr.makeSlice 42 (.int .i64 0) (.int .i64 0)).run Try.prog W = .ok (.slice (some ⟨W.heap.size, 0, none⟩) 0 0) (W.alloc (.cells ((zerosS 0).flatMap dA).toArray 106)) := fun W => make_zeros 0 (by omega) W
    have hm2 : t ≤ 32 := by omega
    by_cases h0 : t = 0
    all_goals
      go_enter Try.func15, Try.ntmps15
      go_wp2_with fail
      go_ret
      exact ⟨rfl, hf.out⟩
  · by_cases h1 : 32 < t
    · rw [show som t = 32 by unfold som; rw [if_neg (by omega), if_pos h1]]
      have hf := hfin 32 (by omega)
      clear hfin
      have hmk : ∀ W, (Instr.makeSlice 42 (.int .i64 32) (.int .i64 32)).run Try.prog W = .ok (.slice (some ⟨W.heap.size, 0, none⟩) 32 32) (W.alloc (.cells ((zerosS 32).flatMap dA).toArray 106)) := fun W => make_zeros 32 (by omega) W
      go_enter Try.func15, Try.ntmps15
      go_wp2_with fail
      go_ret
      exact ⟨rfl, hf.out⟩
    · obtain ⟨c, rfl⟩ := Int.eq_ofNat_of_zero_le (show 0 ≤ t by omega)
      rw [show som c = c by unfold som; rw [if_neg (by omega), if_neg h1]; omega]
      have hf := hfin c (by omega)
      clear hfin
      have hmk := fun W => make_zeros c (by omega) W
      have h1 : (c : Int) ≤ 32 := by omega
      have h2 : (0 : Int) ≤ (c : Int) := by omega
      go_enter Try.func15, Try.ntmps15
      go_wp2_with fail
      go_ret
      exact ⟨rfl, hf.out⟩

theorem ShIn.set {w : World} {g h : Nat} {s : List (Nat × Bool)} (k : ShIn w g h s) (q : Nat) (p : Nat × Bool) (hq : q < s.length) :
    ShIn ((w.setCell ⟨h, q * 2, none⟩ (.int .i64 p.1)).setCell ⟨h, q * 2 + 1, none⟩ (.bool p.2)) g h (s.set q p) := by
  obtain ⟨hl, A, c, h1, h2⟩ := k
  rcases h2 with rfl | ⟨rfl, hn, h3⟩
  · simp at hq
  · refine ⟨by simpa using hl, _, c, ?_, .inr ⟨rfl, hn, ?_⟩⟩
    · rw [List.length_set]
      exact blk_other (blk_other h1 (Ne.symm hn) _) (Ne.symm hn) _
    · rw [blk_set (blk_set h3 _ _), set_flat _ _ _ hq]
      simp
theorem ShIn.cells {w : World} {g h : Nat} {s : List (Nat × Bool)} (k : ShIn w g h s) (q : Nat) (hq : q < s.length) :
    ∃ c, w.cell? ⟨g, 0, none⟩ = some (.slice (some ⟨h, 0, none⟩) s.length c) ∧ w.cell? ⟨h, q * 2, none⟩ = some (.int .i64 s[q].1) ∧ w.cell? ⟨h, q * 2 + 1, none⟩ = some (.bool s[q].2) ∧
      w.frozen? ⟨h, q * 2, none⟩ = false ∧ w.frozen? ⟨h, q * 2 + 1, none⟩ = false ∧ h < w.heap.size := by
  obtain ⟨hl, A, c, h1, h2⟩ := k
  rcases h2 with rfl | ⟨rfl, hn, h3⟩
  · simp at hq
  · have hlen : (s.flatMap dA).length = s.length * 2 := flat_len dA_len s
    have g0 := flat_get dA_len s q 0 (by omega) s[q] (List.getElem?_eq_getElem hq)
    have g1 := flat_get dA_len s q 1 (by omega) s[q] (List.getElem?_eq_getElem hq)
    refine ⟨c, by simp [World.cell?, h1], ?_, ?_, blk_free h3 _, blk_free h3 _, lt_of_blk h3⟩
    · rw [blk_cell h3 (q * 2) (by simp only [List.size_toArray]; omega)]
      rw [Nat.add_zero, List.getElem?_eq_getElem (by omega)] at g0
      simpa [dA] using g0
    · rw [blk_cell h3 (q * 2 + 1) (by simp only [List.size_toArray]; omega)]
      rw [List.getElem?_eq_getElem (by omega)] at g1
      simpa [dA] using g1


theorem do_kind (p : Option Addr) (kd th ct : Int) (rd : Bool) (w : World) (h : kd < 0 ∨ 5 < kd) :
    Calls Try.prog 16 #[.pointer p, .agg #[.int .i64 kd, .int .i64 th, .bool rd, .int .i64 ct]] w fun r w' => r = .returned (.int .i64 7) ∧ Below w.heap.size w w' := by
  cases p
  · by_cases h1 : kd < 0
    · go_enter Try.func16, Try.ntmps16
      go_wp2_with fail
      go_ret
      exact ⟨rfl, below_new _ _⟩
    · have h2 : 5 < kd := by omega
      go_enter Try.func16, Try.ntmps16
      go_wp2_with fail
      go_ret
      exact ⟨rfl, below_new _ _⟩
  · by_cases h1 : kd < 0
    · go_enter Try.func16, Try.ntmps16
      go_wp2_with fail
      go_ret
      exact ⟨rfl, below_new _ _⟩
    · have h2 : 5 < kd := by omega
      go_enter Try.func16, Try.ntmps16
      go_wp2_with fail
      go_ret
      exact ⟨rfl, below_new _ _⟩
theorem do_free (p : Option Addr) (kd th ct : Int) (rd : Bool) (w : World) (h : kd = 0 ∨ kd = 5) :
    Calls Try.prog 16 #[.pointer p, .agg #[.int .i64 kd, .int .i64 th, .bool rd, .int .i64 ct]] w fun r w' => r = .returned (.int .i64 0) ∧ Below w.heap.size w w' := by
  cases p
  · rcases h with rfl | rfl
    all_goals
      go_enter Try.func16, Try.ntmps16
      go_wp2_with fail
      go_ret
      exact ⟨rfl, below_new _ _⟩
  · rcases h with rfl | rfl
    all_goals
      go_enter Try.func16, Try.ntmps16
      go_wp2_with fail
      go_ret
      exact ⟨rfl, below_new _ _⟩
theorem do_out (p : Option Addr) (n : Nat) (A : Option Addr) (c : Nat) (kd th ct : Int) (rd : Bool) (w : World) (hk : 1 ≤ kd ∧ kd ≤ 4) (h : th < 0 ∨ (n : Int) ≤ th)
    (hall : ∀ W, Below w.heap.size w W → Calls Try.prog 67 #[.pointer p] W fun e w' => e = .returned (.slice A n c) ∧ w' = W) :
    Calls Try.prog 16 #[.pointer p, .agg #[.int .i64 kd, .int .i64 th, .bool rd, .int .i64 ct]] w fun r w' => r = .returned (.int .i64 4) ∧ Below w.heap.size w w' := by
  have HA := Lib.hid hall
  clear hall
  have e0 := ibeq_no (show ¬ kd = 0 by omega)
  have e5 := ibeq_no (show ¬ kd = 5 by omega)
  have l0 : ¬ kd < 0 := by omega
  have l5 : ¬ 5 < kd := by omega
  have hb := below_new w (boxE ⟨kd, th, rd, ct⟩)
  simp only [boxE] at hb
  by_cases h0 : th < 0
  · go_enter Try.func16, Try.ntmps16
    go_wp2_with fail
    go_quiet (fail)
    go_wp2_with fail
    go_ret
    exact ⟨rfl, below_drewN hb _⟩
  · have h1 : (n : Int) ≤ th := by omega
    have hd : decide (th < 0) = false := by simpa using h0
    go_enter Try.func16, Try.ntmps16
    go_wp2_with fail
    go_quiet ((go_at_call 67; exact Calls.quiet_of_same (HA.out _ (below_drewN hb _))))
    go_wp2_with fail
    go_ret
    exact ⟨rfl, below_drewN hb _⟩

def aftS (s : List (Nat × Bool)) (k : Nat) (m : (Nat × Bool) × Nat) : List (Nat × Bool) := if m.2 = 0 then s.set k m.1 else s
theorem of7 {B : Nat} {W V : World} {X : Prop} (h : Below B W V ∧ X) : Below B W V := h.1
theorem keep7 {W V V' : World} {g h x : Nat} {i j : Nat} {v1 v2 v3 v4 v5 v6 v7 : Value} (hg : g < W.heap.size) (hh : h < W.heap.size) (hx : x < W.heap.size) (hb : Below W.heap.size V V')
    (H : Below W.heap.size W V ∧ V.cell? ⟨g, 0, none⟩ = some v1 ∧ V.cell? ⟨h, i, none⟩ = some v2 ∧ V.cell? ⟨h, j, none⟩ = some v3 ∧ V.cell? ⟨x, 0, none⟩ = some v4 ∧ V.cell? ⟨x, 1, none⟩ = some v5 ∧ V.cell? ⟨x, 2, none⟩ = some v6 ∧ V.cell? ⟨x, 3, none⟩ = some v7) :
    Below W.heap.size W V' ∧ V'.cell? ⟨g, 0, none⟩ = some v1 ∧ V'.cell? ⟨h, i, none⟩ = some v2 ∧ V'.cell? ⟨h, j, none⟩ = some v3 ∧ V'.cell? ⟨x, 0, none⟩ = some v4 ∧ V'.cell? ⟨x, 1, none⟩ = some v5 ∧ V'.cell? ⟨x, 2, none⟩ = some v6 ∧ V'.cell? ⟨x, 3, none⟩ = some v7 := by
  obtain ⟨h0, h1, h2, h3, h4, h5, h6, h7⟩ := H
  have hs := h0.size
  have q : ∀ b o, b < W.heap.size → V'.cell? ⟨b, o, none⟩ = V.cell? ⟨b, o, none⟩ := fun b o hb' => hb.cell (p := ⟨b, o, none⟩) hb'
  exact ⟨h0.trans hb, by rw [q _ _ hg, h1], by rw [q _ _ hh, h2], by rw [q _ _ hh, h3], by rw [q _ _ hx, h4], by rw [q _ _ hx, h5], by rw [q _ _ hx, h6], by rw [q _ _ hx, h7]⟩
set_option maxHeartbeats 2000000 in
set_option maxRecDepth 100000 in
theorem do_in (g h k : Nat) (s : List (Nat × Bool)) (e : Ev) (w : World) (hk : 1 ≤ e.kind ∧ e.kind ≤ 4) (H : ShIn w g h s) (hl : k < s.length) (ht : e.thread = k) :
    Calls Try.prog 16 #[.pointer (some ⟨g, 0, none⟩), .agg #[.int .i64 e.kind, .int .i64 k, .bool e.read, .int .i64 e.count]] w fun r w' => r = .returned (.int .i64 (movS s s[k] e).2) ∧
      ShIn w' g h (aftS s k (movS s s[k] e)) ∧ Mod [h] w w' := by
  obtain ⟨kd, th, rd, ct⟩ := e
  simp only at hk ht ⊢
  subst ht
  have l0 : ¬ kd < 0 := by omega
  have l5 : ¬ 5 < kd := by omega
  have e0 := ibeq_no (show ¬ kd = 0 by omega)
  have e5 := ibeq_no (show ¬ kd = 5 by omega)
  have t1 : (k : Int) < (s.length : Int) := by omega
  have hd : decide ((k : Int) < 0) = false := by simp
  have H1 := H.step (below_new w (boxE ⟨kd, k, rd, ct⟩))
  have cx : (w.alloc (boxE ⟨kd, k, rd, ct⟩)).heap[w.heap.size]? = some (boxE ⟨kd, k, rd, ct⟩) := blk_new _ _
  have M1 : Mod [h] w (w.alloc (boxE ⟨kd, k, rd, ct⟩)) := (Mod.refl _ _).alloc _
  obtain ⟨c, cg, ch0, ch1, _, _, hhl⟩ := H1.cells k hl
  have cx0 := blk_cell cx 0 (by simp)
  have cx1 := blk_cell cx 1 (by simp)
  have cx2 := blk_cell cx 2 (by simp)
  have cx3 := blk_cell cx 3 (by simp)
  have xl := lt_of_blk cx
  have hM := (fun W (hb : Below (w.alloc (boxE ⟨kd, k, rd, ct⟩)).heap.size (w.alloc (boxE ⟨kd, k, rd, ct⟩)) W) => moves_any g s s[k] ⟨kd, k, rd, ct⟩ W (H1.lk.below hb) hk)
  obtain ⟨m, hm⟩ : ∃ m, movS s s[k] ⟨kd, k, rd, ct⟩ = m := ⟨_, rfl⟩
  simp only [hm] at hM ⊢
  simp only [boxE] at H1 cx M1 cg ch0 ch1 hhl cx0 cx1 cx2 cx3 xl hM
  simp only [List.getElem_toArray, List.getElem_cons_zero, List.getElem_cons_succ] at cx0 cx1 cx2 cx3
  have HM := Lib.hid hM
  clear cx hm H hM
  go_enter Try.func16, Try.ntmps16
  go_wp2_with fail
  generalize w.alloc (.cells #[.int .i64 kd, .int .i64 k, .bool rd, .int .i64 ct] 29) = W at *
  go_quiet ((go_at_call 67; exact Calls.quiet_of_same (all_any g s (some ⟨h, 0, none⟩) c _ cg)))
  go_wp2_with fail
  have H2 : ShIn (W.drewN nq) g h s := H1
  have M2 : Mod [h] w (W.drewN nq) := M1.drewN nq
  have HM2 := Lib.hid (fun V (hb : Below (W.drewN nq).heap.size (W.drewN nq) V) => HM.out V ((below_drewN (Below.refl _ _) nq).trans hb))
  have cg : (W.drewN nq).cell? ⟨g, 0, none⟩ = _ := cg
  have ch0 : (W.drewN nq).cell? ⟨h, k * 2, none⟩ = _ := ch0
  have ch1 : (W.drewN nq).cell? ⟨h, k * 2 + 1, none⟩ = _ := ch1
  have cx0 : (W.drewN nq).cell? ⟨w.heap.size, 0, none⟩ = _ := cx0
  have cx1 : (W.drewN nq).cell? ⟨w.heap.size, 1, none⟩ = _ := cx1
  have cx2 : (W.drewN nq).cell? ⟨w.heap.size, 2, none⟩ = _ := cx2
  have cx3 : (W.drewN nq).cell? ⟨w.heap.size, 3, none⟩ = _ := cx3
  have hhl : h < (W.drewN nq).heap.size := hhl
  have xl : w.heap.size < (W.drewN nq).heap.size := xl
  clear H1 M1 HM
  generalize W.drewN nq = W at *
  have gl : g < W.heap.size := H2.lt
  have n0 : (W.alloc (.cells #[.int .i64 0, .bool false] 106)).cell? ⟨W.heap.size, 0, none⟩ = some (.int .i64 0) := by rw [World.cell?_alloc_at _ _ _ _ rfl]; rfl
  have n1 : (W.alloc (.cells #[.int .i64 0, .bool false] 106)).cell? ⟨W.heap.size, 1, none⟩ = some (.bool false) := by rw [World.cell?_alloc_at _ _ _ _ rfl]; rfl
  have n2 : ∀ i, (W.alloc (.cells #[.int .i64 0, .bool false] 106)).frozen? ⟨W.heap.size, i, none⟩ = false := fun i => blk_free (blk_new _ _) i
  have n3 : W.heap.size < (W.alloc (.cells #[.int .i64 0, .bool false] 106)).heap.size := by simp
  have N0 := Lib.hid n0
  have N1 := Lib.hid n1
  have N2 := Lib.hid n2
  have N3 := Lib.hid n3
  clear n0 n1 n2 n3
  have S0 : Below W.heap.size W W.drew ∧ W.drew.cell? ⟨g, 0, none⟩ = some (.slice (some ⟨h, 0, none⟩) s.length c) ∧ W.drew.cell? ⟨h, k * 2, none⟩ = some (.int .i64 s[k].1) ∧ W.drew.cell? ⟨h, k * 2 + 1, none⟩ = some (.bool s[k].2) ∧
    W.drew.cell? ⟨w.heap.size, 0, none⟩ = some (.int .i64 kd) ∧ W.drew.cell? ⟨w.heap.size, 1, none⟩ = some (.int .i64 k) ∧ W.drew.cell? ⟨w.heap.size, 2, none⟩ = some (.bool rd) ∧ W.drew.cell? ⟨w.heap.size, 3, none⟩ = some (.int .i64 ct) := ⟨Below.drew (Below.refl _ _), cg, ch0, ch1, cx0, cx1, cx2, cx3⟩
  have SW : Below W.heap.size W W ∧ W.cell? ⟨g, 0, none⟩ = some (.slice (some ⟨h, 0, none⟩) s.length c) ∧ W.cell? ⟨h, k * 2, none⟩ = some (.int .i64 s[k].1) ∧ W.cell? ⟨h, k * 2 + 1, none⟩ = some (.bool s[k].2) ∧
    W.cell? ⟨w.heap.size, 0, none⟩ = some (.int .i64 kd) ∧ W.cell? ⟨w.heap.size, 1, none⟩ = some (.int .i64 k) ∧ W.cell? ⟨w.heap.size, 2, none⟩ = some (.bool rd) ∧ W.cell? ⟨w.heap.size, 3, none⟩ = some (.int .i64 ct) := ⟨Below.refl _ _, cg, ch0, ch1, cx0, cx1, cx2, cx3⟩
  go_region_held3 (fun V => Below W.heap.size W V ∧ V.cell? ⟨g, 0, none⟩ = some (.slice (some ⟨h, 0, none⟩) s.length c) ∧ V.cell? ⟨h, k * 2, none⟩ = some (.int .i64 s[k].1) ∧ V.cell? ⟨h, k * 2 + 1, none⟩ = some (.bool s[k].2) ∧
    V.cell? ⟨w.heap.size, 0, none⟩ = some (.int .i64 kd) ∧ V.cell? ⟨w.heap.size, 1, none⟩ = some (.int .i64 k) ∧ V.cell? ⟨w.heap.size, 2, none⟩ = some (.bool rd) ∧ V.cell? ⟨w.heap.size, 3, none⟩ = some (.int .i64 ct))
    (first | exact S0 | (refine keep7 gl hhl xl ?_ SW; first | exact hV | exact Below.drew (below_new _ _) | exact (Below.drew (Below.refl _ _)).alloc (Nat.le_refl _) _ | exact hV.alloc hV.size _ | exact (hV.setCell (Nat.le_refl _) _).setCell (Nat.le_refl _) _ | exact hV.setCell (Nat.le_refl _) _))
    (first | (go_at_call 68; refine (HM2.out _ (Below.drew (Below.refl _ _))).mono ?_; rintro r w2 ⟨rfl, hb⟩; have hV : Below W.heap.size W w2 := (Below.drew (Below.refl _ _)).trans hb) | (go_at_call 68; refine (HM2.out _ (Below.drew (below_new _ _))).mono ?_; rintro r w2 ⟨rfl, hb⟩; have hV : Below W.heap.size W w2 := (Below.drew (below_new _ _)).trans (hb.mono (Nat.le_of_lt N3.out)); have d0 := (hb.cell (p := ⟨W.heap.size, 0, none⟩) N3.out).trans N0.out; have d1 := (hb.cell (p := ⟨W.heap.size, 1, none⟩) N3.out).trans N1.out; have d2 := (hb.frozen (p := ⟨W.heap.size, 0, none⟩) N3.out).trans (N2.out 0); have d3 := (hb.frozen (p := ⟨W.heap.size, 1, none⟩) N3.out).trans (N2.out 1)))
  · have e0c : (w2.alloc (.cells #[.int .i64 m.1.1, .bool m.1.2] 106)).cell? ⟨w2.heap.size, 0, none⟩ = some (.int .i64 m.1.1) := by rw [World.cell?_alloc_at _ _ _ _ rfl]; rfl
    have e1c : (w2.alloc (.cells #[.int .i64 m.1.1, .bool m.1.2] 106)).cell? ⟨w2.heap.size, 1, none⟩ = some (.bool m.1.2) := by rw [World.cell?_alloc_at _ _ _ _ rfl]; rfl
    have hVb : Below W.heap.size W (w2.alloc (.cells #[.int .i64 m.1.1, .bool m.1.2] 106)) := (hV.alloc hV.size _)
    have hbl : W.heap.size ≤ w2.heap.size := hV.size
    have HS2 := Lib.hid (show ShIn (w2.alloc (.cells #[.int .i64 m.1.1, .bool m.1.2] 106)) g h s from H2.step hVb)
    have HM := Lib.hid (show Mod [h] w (w2.alloc (.cells #[.int .i64 m.1.1, .bool m.1.2] 106)) from M2.trans (Mod.of_below hVb))
    have cg' := (hVb.cell (p := ⟨g, 0, none⟩) gl).trans cg
    have cx1' := (hVb.cell (p := ⟨w.heap.size, 1, none⟩) xl).trans cx1
    have hq0 := (hVb.cell (p := ⟨h, k * 2, none⟩) hhl).trans ch0
    have hq1 := (hVb.cell (p := ⟨h, k * 2 + 1, none⟩) hhl).trans ch1
    obtain ⟨_, _, _, _, fz0, fz1, _⟩ := HS2.out.cells k hl
    clear hVb hV hb S0 SW cg ch0 ch1 cx0 cx1 cx2 cx3 N0 N1 N2 N3 HM2 M2 H2
    generalize (w2.alloc (.cells #[.int .i64 m.1.1, .bool m.1.2] 106)) = V at *
    generalize w2.heap.size = b5 at *
    by_cases hx : m.2 = 0
    · have q0 := ibeq (show (m.2 : Int) = 0 by omega)
      have HX := Lib.hid hx
      clear hx
      go_wp2_with fail
      go_region
      go_wp2_with fail
      go_ret
      exact ⟨rfl, by rw [aftS, if_pos HX.out]; exact HS2.out.set k m.1 hl, (HM.out.drew.setCell (by simp) _).setCell (by simp) _⟩
    · have q0 := ibeq_no (show ¬ (m.2 : Int) = 0 by omega)
      have HX := Lib.hid hx
      clear hx
      go_wp2_with fail
      go_ret
      exact ⟨rfl, by rw [aftS, if_neg HX.out]; exact HS2.out, HM.out⟩
  · have e0c : ((w2.setCell ⟨W.heap.size, 0, none⟩ (.int .i64 m.1.1)).setCell ⟨W.heap.size, 1, none⟩ (.bool m.1.2)).cell? ⟨W.heap.size, 0, none⟩ = some (.int .i64 m.1.1) := by go_simp
    have e1c : ((w2.setCell ⟨W.heap.size, 0, none⟩ (.int .i64 m.1.1)).setCell ⟨W.heap.size, 1, none⟩ (.bool m.1.2)).cell? ⟨W.heap.size, 1, none⟩ = some (.bool m.1.2) := by go_simp
    clear d0 d1 d2 d3
    have hVb : Below W.heap.size W ((w2.setCell ⟨W.heap.size, 0, none⟩ (.int .i64 m.1.1)).setCell ⟨W.heap.size, 1, none⟩ (.bool m.1.2)) := ((hV.setCell (Nat.le_refl _) _).setCell (Nat.le_refl _) _)
    have hbl : W.heap.size ≤ W.heap.size := (Nat.le_refl _)
    have HS2 := Lib.hid (show ShIn ((w2.setCell ⟨W.heap.size, 0, none⟩ (.int .i64 m.1.1)).setCell ⟨W.heap.size, 1, none⟩ (.bool m.1.2)) g h s from H2.step hVb)
    have HM := Lib.hid (show Mod [h] w ((w2.setCell ⟨W.heap.size, 0, none⟩ (.int .i64 m.1.1)).setCell ⟨W.heap.size, 1, none⟩ (.bool m.1.2)) from M2.trans (Mod.of_below hVb))
    have cg' := (hVb.cell (p := ⟨g, 0, none⟩) gl).trans cg
    have cx1' := (hVb.cell (p := ⟨w.heap.size, 1, none⟩) xl).trans cx1
    have hq0 := (hVb.cell (p := ⟨h, k * 2, none⟩) hhl).trans ch0
    have hq1 := (hVb.cell (p := ⟨h, k * 2 + 1, none⟩) hhl).trans ch1
    obtain ⟨_, _, _, _, fz0, fz1, _⟩ := HS2.out.cells k hl
    clear hVb hV hb S0 SW cg ch0 ch1 cx0 cx1 cx2 cx3 N0 N1 N2 N3 HM2 M2 H2
    generalize ((w2.setCell ⟨W.heap.size, 0, none⟩ (.int .i64 m.1.1)).setCell ⟨W.heap.size, 1, none⟩ (.bool m.1.2)) = V at *
    generalize W.heap.size = b5 at *
    by_cases hx : m.2 = 0
    · have q0 := ibeq (show (m.2 : Int) = 0 by omega)
      have HX := Lib.hid hx
      clear hx
      go_wp2_with fail
      go_region
      go_wp2_with fail
      go_ret
      exact ⟨rfl, by rw [aftS, if_pos HX.out]; exact HS2.out.set k m.1 hl, (HM.out.drew.setCell (by simp) _).setCell (by simp) _⟩
    · have q0 := ibeq_no (show ¬ (m.2 : Int) = 0 by omega)
      have HX := Lib.hid hx
      clear hx
      go_wp2_with fail
      go_ret
      exact ⟨rfl, by rw [aftS, if_neg HX.out]; exact HS2.out, HM.out⟩
end Go.Proofs.Ytfdcojhgpfmloaa.Sha
