/- The law SharedPlain: its walk. -/
import Derived.Test.YtfdcojhgpfmloaaShN
namespace Go.Proofs.Ytfdcojhgpfmloaa.Sha
open Go.RowKit

theorem frame48 {a : Act} (h : a.tmps.size = 48) (hd : a.defers = []) : ∃ u : Nat → Value, a = { tmps := #[u 0, u 1, u 2, u 3, u 4, u 5, u 6, u 7, u 8, u 9, u 10, u 11, u 12, u 13, u 14, u 15, u 16, u 17, u 18, u 19, u 20, u 21, u 22, u 23, u 24, u 25, u 26, u 27, u 28, u 29, u 30, u 31, u 32, u 33, u 34, u 35, u 36, u 37, u 38, u 39, u 40, u 41, u 42, u 43, u 44, u 45, u 46, u 47], defers := [] } ∧ ∀ n, a.tmps.getD n undef = u n := by
  refine ⟨fun n => a.tmps.getD n undef, ?_, fun _ => rfl⟩
  have h1 := arr_lit a.tmps h
  cases a with
  | mk t d =>
    simp only at hd h1
    subst hd
    congr 1
theorem autoIn_mod {S : List Nat} {w w' : World} {g h : Nat} {s : List Nat} (k : Aut.AutoIn w g h s) (hm : Mod S w w') (hg : g ∉ S) (hh : h ∉ S) : Aut.AutoIn w' g h s := by
  obtain ⟨A, c, h1, h2⟩ := k
  refine ⟨A, c, hm.blk h1 hg, ?_⟩
  rcases h2 with h2 | ⟨a, b, c⟩
  · exact .inl h2
  · exact .inr ⟨a, b, hm.blk c hh⟩
theorem shIn_mod {S : List Nat} {w w' : World} {g h : Nat} {s : List (Nat × Bool)} (k : ShIn w g h s) (hm : Mod S w w') (hg : g ∉ S) (hh : h ∉ S) : ShIn w' g h s := by
  obtain ⟨hl, A, c, h1, h2⟩ := k
  refine ⟨hl, A, c, hm.blk h1 hg, ?_⟩
  rcases h2 with h2 | ⟨a, b, c⟩
  · exact .inl h2
  · exact .inr ⟨a, b, hm.blk c hh⟩
/-- Both locks. -/
def Two (w W : World) (s : List (Nat × Bool)) : Prop :=
  ShIn W (w.heap.size + 1) w.heap.size s ∧ Aut.AutoIn W (w.heap.size + 1 + 1 + 1) (w.heap.size + 1 + 1) (s.map Prod.fst) ∧ w.heap.size + 1 + 1 + 1 + 1 ≤ W.heap.size ∧ Below w.heap.size w W ∧ NoR s
theorem Two.same {w W W' : World} {s : List (Nat × Bool)} (h : Two w W s) (hb : Below W.heap.size W W') : Two w W' s :=
  ⟨h.1.step hb, autoIn_mod h.2.1 (S := []) (Mod.of_below hb) (by simp) (by simp), Nat.le_trans h.2.2.1 hb.size, h.2.2.2.1.trans (hb.mono (by have := h.2.2.1; omega)), h.2.2.2.2⟩
/-- Behind the first Do: the second lock is not yet there. -/
def Half (w W : World) (s t : List (Nat × Bool)) : Prop :=
  ShIn W (w.heap.size + 1) w.heap.size t ∧ Aut.AutoIn W (w.heap.size + 1 + 1 + 1) (w.heap.size + 1 + 1) (s.map Prod.fst) ∧ w.heap.size + 1 + 1 + 1 + 1 ≤ W.heap.size ∧ Below w.heap.size w W
theorem do_x (w W : World) (s : List (Nat × Bool)) (e : Ev) (x : Nat) (H : Two w W s) (hx : (doS s e).1 = x) :
    Calls Try.prog 16 #[.pointer (some ⟨w.heap.size + 1, 0, none⟩), .agg (decE e).toArray] W fun r w' => r = .returned (.int .i64 x) ∧ Half w w' s (doS s e).2 ∧ Mod [w.heap.size] W w' := by
  subst hx
  refine (do_any _ _ s e W H.1).mono ?_
  rintro r w' ⟨rfl, h1, h2⟩
  have := H.2.2.1
  exact ⟨rfl, ⟨h1, autoIn_mod H.2.1 h2 (by simp; omega) (by simp; omega), Nat.le_trans H.2.2.1 h2.size, h2.below_of H.2.2.2.1 (by omega) (by simp)⟩, h2⟩
theorem do_y (w W : World) (s : List (Nat × Bool)) (e : Ev) (x : Nat) (he : e.read = false) (hN : NoR s) (H : Half w W s (doS s e).2) (hx : (doS s e).1 = x) :
    Calls Try.prog 65 #[.pointer (some ⟨w.heap.size + 1 + 1 + 1, 0, none⟩), .agg (decE e).toArray] W fun r w' => r = .returned (.int .i64 x) ∧ Two w w' (doS s e).2 ∧ Mod [w.heap.size + 1 + 1] W w' := by
  obtain ⟨⟨p1, p2⟩, p3⟩ := plain_do s hN e he
  rw [p1] at hx
  subst hx
  have hl : (s.map Prod.fst).length ≤ 9223372036854775807 := by
    have h1 := H.1.1
    rw [do_len] at h1
    rw [List.length_map]
    omega
  refine (Aut.do_any _ _ (s.map Prod.fst) (conv e) W H.2.1 hl).mono ?_
  rintro r w' ⟨rfl, h1, h2⟩
  rw [p2] at h1
  have := H.2.2.1
  exact ⟨rfl, ⟨shIn_mod H.1 h2.mod (by simp) (by simp; omega), h1, Nat.le_trans this h2.mod.size, h2.mod.below_of H.2.2.2 (by omega) (by simp; omega), p3⟩, h2.mod⟩
theorem writer_x (w W : World) (s : List (Nat × Bool)) (H : Two w W s) (i : Int) (hi : wOf s = i) : Calls Try.prog 19 #[.pointer (some ⟨w.heap.size + 1, 0, none⟩)] W fun r w' => r = .returned (.int .i64 i) ∧ Two w w' s ∧ Below W.heap.size W w' := by
  subst hi
  refine (writer_any _ s W H.1.lk).mono ?_
  rintro r w' ⟨rfl, hb⟩
  exact ⟨rfl, H.same hb, hb⟩
theorem readers_x (w W : World) (s : List (Nat × Bool)) (H : Two w W s) : Calls Try.prog 21 #[.pointer (some ⟨w.heap.size + 1, 0, none⟩)] W fun r w' => r = .returned (.int .i64 0) ∧ Two w w' s ∧ Below W.heap.size W w' := by
  have h0 := noR_rOf H.2.2.2.2
  refine (readers_any _ s W H.1.lk).mono ?_
  rintro r w' ⟨rfl, hb⟩
  rw [h0]
  exact ⟨rfl, H.same hb, hb⟩
theorem holder_y (w W : World) (s : List (Nat × Bool)) (H : Two w W s) (i : Int) (hi : wOf s = i) : Calls Try.prog 66 #[.pointer (some ⟨w.heap.size + 1 + 1 + 1, 0, none⟩)] W fun r w' => r = .returned (.int .i64 i) ∧ Two w w' s ∧ Below W.heap.size W w' := by
  subst hi
  rw [noR_wOf H.2.2.2.2]
  refine (Aut.holder_any _ (s.map Prod.fst) W (by have := H.1.1; rw [List.length_map]; omega) H.2.1.at_).mono ?_
  rintro r w' ⟨rfl, rfl⟩
  exact ⟨rfl, H, Below.refl _ _⟩

def PnJ (l : List Ev) (A : Option Addr) (cap : Nat) (w : World) (a : Act) (W : World) : Prop :=
  a.tmps.size = 48 ∧ a.defers = [] ∧ a.tmps.getD 1 undef = .slice A l.length cap ∧ a.tmps.getD 5 undef = .pointer (some ⟨w.heap.size + 1, 0, none⟩) ∧ a.tmps.getD 6 undef = .pointer (some ⟨w.heap.size + 1 + 1 + 1, 0, none⟩) ∧
    ∃ (k : Nat) (s : List (Nat × Bool)), a.tmps.getD 7 undef = .int .i64 k ∧ k ≤ l.length ∧ Two w W s
theorem cells4 {W : World} {b : Nat} {e : Ev} (h : W.heap[b]? = some (boxE e)) : W.cell? ⟨b, 0, none⟩ = some (.int .i64 e.kind) ∧ W.cell? ⟨b, 1, none⟩ = some (.int .i64 e.thread) ∧ W.cell? ⟨b, 2, none⟩ = some (.bool e.read) ∧ W.cell? ⟨b, 3, none⟩ = some (.int .i64 e.count) := by
  unfold boxE at h
  exact ⟨blk_cell h 0 (by simp), blk_cell h 1 (by simp), blk_cell h 2 (by simp), blk_cell h 3 (by simp)⟩

set_option maxHeartbeats 4000000 in
set_option maxRecDepth 100000 in
theorem plain_walk (T : Int) (l : List Ev) (A : Option Addr) (cap : Nat) (w : World) (hcm : l.length ≤ 9223372036854775807) (hs : Sl w w.heap.size A (l.flatMap decE)) :
    Calls Try.prog 13 #[.int .i64 T, .slice A l.length cap] w fun e w' => e = .returned (.bool true) ∧ Below w.heap.size w w' := by
  by_cases hle : l.length ≤ 60
  · have i1 : ¬ (60 : Int) < (l.length : Int) := by omega
    go_enter Try.func13, Try.ntmps13
    go_wp2_with fail
    refine (new_in T _).mono ?_
    rintro e w1 ⟨rfl, hx, hsz, hb⟩
    go_wp2_with fail
    have KY := Aut.new_in T w1
    rw [hsz] at KY
    refine KY.mono ?_
    rintro e w2 ⟨rfl, hy, hsz2, hb2⟩
    have htwo : Two w w2 (zerosS (som T)) := by
      refine ⟨hx.below hb2 (by omega) (by omega), ?_, by omega, hb.trans (hb2.mono (by omega)), noR_zero _⟩
      rw [show (zerosS (som T)).map Prod.fst = List.replicate (Aut.som T) 0 by simp [zerosS]; rfl]
      exact hy
    clear hx hsz hb hy hsz2 hb2 KY
    go_wp2_with fail
    refine wp_loop (PnJ l A cap w) (fun a' _ => l.length - (intOf (a'.tmps.getD 7 undef)).toNat) ?_ ?_
    · exact ⟨rfl, rfl, rfl, rfl, rfl, 0, _, rfl, Nat.zero_le _, htwo⟩
    · clear htwo
      rintro a' W ⟨hsz, hdf, s1, s5, s6, k, s, s7, hk, htwo⟩
      obtain ⟨u, rfl, hu⟩ := frame48 hsz hdf
      rw [hu] at s1 s5 s6 s7
      simp only [s1, s5, s6, s7]
      clear hsz hdf s1 s5 s6 s7 hu
      by_cases hlt : k < l.length
      · obtain ⟨b, off, rfl, hbb, hcell⟩ := Sl_at (k := 4) (fun _ => rfl) (by omega) (hs.below htwo.2.2.2.1) (by omega)
        have h0 := hcell k hlt 0 (by omega)
        have h1 := hcell k hlt 1 (by omega)
        have h2 := hcell k hlt 2 (by omega)
        have h3 := hcell k hlt 3 (by omega)
        simp only [decE, List.getElem?_cons_zero, List.getElem?_cons_succ, Nat.add_zero, ← Nat.add_assoc] at h0 h1 h2 h3
        clear hcell
        go_wp2_with fail
        have htwo1 : Two w (W.alloc (boxE ⟨l[k].kind, l[k].thread, false, l[k].count⟩)) s := htwo.same (below_new _ _)
        have hbox : (W.alloc (boxE ⟨l[k].kind, l[k].thread, false, l[k].count⟩)).heap[W.heap.size]? = some (boxE ⟨l[k].kind, l[k].thread, false, l[k].count⟩) := blk_new _ _
        have hz1 := htwo.2.2.1
        have HN := Lib.hid htwo.2.2.2.2
        obtain ⟨x, hx⟩ : ∃ x, (doS s ⟨l[k].kind, l[k].thread, false, l[k].count⟩).1 = x := ⟨_, rfl⟩
        obtain ⟨i, hi⟩ : ∃ i, wOf (doS s ⟨l[k].kind, l[k].thread, false, l[k].count⟩).2 = i := ⟨_, rfl⟩
        have HX := Lib.hid hx
        have HI := Lib.hid hi
        have ex := nbne_no (rfl : x = x)
        have ei := ibne_no (rfl : i = i)
        clear hx hi h0 h1 h2 h3 htwo
        simp only [boxE] at htwo1 hbox
        generalize l[k].kind = kd at *
        generalize l[k].thread = th at *
        generalize l[k].count = ct at *
        generalize W.alloc (.cells #[.int .i64 kd, .int .i64 th, .bool false, .int .i64 ct] 29) = W1 at *
        generalize W.heap.size = bx at *
        obtain ⟨c0, c1, c2, c3⟩ := cells4 (e := ⟨kd, th, false, ct⟩) hbox
        have HT := Lib.hid htwo1
        have HB := Lib.hid hbox
        clear hbox htwo1
        go_region_held3 (fun V => V.cell? ⟨bx, 0, none⟩ = some (.int .i64 kd) ∧ V.cell? ⟨bx, 1, none⟩ = some (.int .i64 th) ∧ V.cell? ⟨bx, 2, none⟩ = some (.bool false) ∧ V.cell? ⟨bx, 3, none⟩ = some (.int .i64 ct))
          (first | exact ⟨c0, c1, c2, c3⟩ | exact cells4 (e := ⟨kd, th, false, ct⟩) bx5 | exact cells4 (e := ⟨kd, th, false, ct⟩) bx4 | exact cells4 (e := ⟨kd, th, false, ct⟩) bx3 | exact cells4 (e := ⟨kd, th, false, ct⟩) bx2)
          (first
            | (go_at_call 16; refine (do_x w _ s ⟨kd, th, false, ct⟩ x (HT.out.same below_drew0) HX.out).mono ?_; rintro r w2 ⟨rfl, hh2, hm2⟩; have bx2 := hm2.blk HB.out (by simp; omega))
            | (go_at_call 65; refine (do_y w _ s ⟨kd, th, false, ct⟩ x rfl HN.out hh2 HX.out).mono ?_; rintro r w3 ⟨rfl, ht3, hm3⟩; have bx3 := hm3.blk bx2 (by simp; omega))
            | (go_at_call 19; refine (writer_x w _ _ ht3 i HI.out).mono ?_; rintro r w4 ⟨rfl, ht4, hb4⟩; have bx4 := (hb4.block _ (lt_of_blk bx3)).trans bx3)
            | (go_at_call 66; refine (holder_y w _ _ ht4 i HI.out).mono ?_; rintro r w5 ⟨rfl, ht5, hb5⟩; have bx5 := (hb5.block _ (lt_of_blk bx4)).trans bx4)
            | (go_at_call 21; refine (readers_x w _ _ ht5).mono ?_; rintro r w6 ⟨rfl, ht6, hb6⟩; have bx5 := (hb6.block _ (lt_of_blk bx5)).trans bx5))
        go_wp2_with fail
        exact ⟨⟨rfl, rfl, rfl, rfl, rfl, k + 1, _, rfl, hlt, ht6⟩, by simp [intOf]; omega⟩
      · go_wp2_with fail
        refine (awake_any _).mono ?_
        rintro e W3 ⟨rfl, hb⟩
        go_wp2_with fail
        go_ret
        exact ⟨rfl, (htwo.same hb).2.2.2.1⟩
  · have i1 : (60 : Int) < (l.length : Int) := by omega
    go_enter Try.func13, Try.ntmps13
    go_wp2_with fail
    refine (awake_any _).mono ?_
    rintro e W3 ⟨rfl, hb⟩
    go_wp2_with fail
    go_ret
    exact ⟨rfl, hb⟩
theorem plain_law (w : World) (T : Int) (_h0 : isI64 T) (A : Option Addr) (c : Nat) (l : List Ev) (hc : l.length ≤ c) (hm : c ≤ maxLen) (_w0 : ∀ e ∈ l, isI64 e.kind ∧ isI64 e.thread ∧ isI64 e.count) (hs : Sl w w.heap.size A (l.flatMap decE)) :
    Calls Try.prog 13 #[.int .i64 T, .slice A l.length c] w fun e w' => e = .returned (.bool true) ∧ Below w.heap.size w w' := plain_walk T l A c w (by simp only [maxLen] at hm; omega) hs
end Go.Proofs.Ytfdcojhgpfmloaa.Sha
