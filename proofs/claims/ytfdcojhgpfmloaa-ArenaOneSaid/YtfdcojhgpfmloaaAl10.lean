/- Layer 1's law ArenaOne: its walk. -/
import Derived.Test.YtfdcojhgpfmloaaAl9
import Derived.Deep.Cut
import Derived.Deep.CutBlock
namespace Go.Proofs.Ytfdcojhgpfmloaa.Ara
open Go.RowKit
theorem frame186 {a : Act} (h : a.tmps.size = 186) (hd : a.defers = []) : ∃ u : Nat → Value, a = { tmps := #[u 0, u 1, u 2, u 3, u 4, u 5, u 6, u 7, u 8, u 9, u 10, u 11, u 12, u 13, u 14, u 15, u 16, u 17, u 18, u 19, u 20, u 21, u 22, u 23, u 24, u 25, u 26, u 27, u 28, u 29, u 30, u 31, u 32, u 33, u 34, u 35, u 36, u 37, u 38, u 39, u 40, u 41, u 42, u 43, u 44, u 45, u 46, u 47, u 48, u 49, u 50, u 51, u 52, u 53, u 54, u 55, u 56, u 57, u 58, u 59, u 60, u 61, u 62, u 63, u 64, u 65, u 66, u 67, u 68, u 69, u 70, u 71, u 72, u 73, u 74, u 75, u 76, u 77, u 78, u 79, u 80, u 81, u 82, u 83, u 84, u 85, u 86, u 87, u 88, u 89, u 90, u 91, u 92, u 93, u 94, u 95, u 96, u 97, u 98, u 99, u 100, u 101, u 102, u 103, u 104, u 105, u 106, u 107, u 108, u 109, u 110, u 111, u 112, u 113, u 114, u 115, u 116, u 117, u 118, u 119, u 120, u 121, u 122, u 123, u 124, u 125, u 126, u 127, u 128, u 129, u 130, u 131, u 132, u 133, u 134, u 135, u 136, u 137, u 138, u 139, u 140, u 141, u 142, u 143, u 144, u 145, u 146, u 147, u 148, u 149, u 150, u 151, u 152, u 153, u 154, u 155, u 156, u 157, u 158, u 159, u 160, u 161, u 162, u 163, u 164, u 165, u 166, u 167, u 168, u 169, u 170, u 171, u 172, u 173, u 174, u 175, u 176, u 177, u 178, u 179, u 180, u 181, u 182, u 183, u 184, u 185], defers := [] } ∧ ∀ n, a.tmps.getD n undef = u n := by
  refine ⟨fun n => a.tmps.getD n undef, ?_, fun _ => rfl⟩
  have h1 := arr_lit a.tmps h
  cases a with
  | mk t d =>
    simp only at hd h1
    subst hd
    congr 1
/-- A row of numbers of the call's own, behind the arena. -/
def Rw (B : Nat) (W : World) (A : Option Addr) (c n : Nat) (l : List Int) : Prop := W.ownsRow (B + 1 + 1) 3 1 (.slice A n c) n (l.map vI)
theorem Rw.mod {B : Nat} {W W' : World} {A : Option Addr} {c n : Nat} {l : List Int} (h : Rw B W A c n l) (hm : Mod [B + 1, B] W W') : Rw B W' A c n l := own_mod h hm (by simp; omega)
theorem Rw.same {B : Nat} {W W' : World} {A : Option Addr} {c n : Nat} {l : List Int} (h : Rw B W A c n l) (hb : Below W.heap.size W W') : Rw B W' A c n l := own_mod (S := []) h (Mod.of_below hb) (by simp)
theorem Rw.cell {B : Nat} {W : World} {A : Option Addr} {c n : Nat} {l : List Int} (h : Rw B W A c n l) (k : Nat) (hk : k < l.length) : ∃ b off, A = some ⟨b, off, none⟩ ∧ W.cell? ⟨b, off + k, none⟩ = some (.int .i64 (l.getD k 0)) := by
  obtain ⟨A', c', h1, _, _, h2⟩ := own_slice h
  injection h1 with h1 _ _
  subst h1
  rcases h2 with h2 | ⟨b, off, h3, _, h4⟩
  · have : l = [] := by simpa using h2
    subst this
    simp at hk
  · refine ⟨b, off, h3, ?_⟩
    rw [h4 k (by simpa using hk)]
    simp [vI, hk]
theorem Rw.at_ {B : Nat} {W : World} {b o c n : Nat} {l : List Int} (h : Rw B W (some ⟨b, o, none⟩) c n l) (k : Nat) (hk : k < l.length) : W.cell? ⟨b, o + k, none⟩ = some (.int .i64 (l.getD k 0)) := by
  obtain ⟨b', o', h1, h2⟩ := h.cell k hk
  injection h1 with h1
  injection h1 with h1 h3 _
  subst h1 h3
  exact h2
theorem getD_take (l : List Int) (n q : Nat) (h : q < n) : (l.take n).getD q 0 = l.getD q 0 := by
  simp only [List.getD_eq_getElem?_getD, List.getElem?_take_of_lt h]
theorem last_q (B : Nat) (W0 W : World) (σ : Ar) (H : AtA B W0 W σ) (kd p : Int) (wr : Bool) (h1 : σ.kind = kd) (h2 : σ.pos = p) (h3 : σ.wrote = wr) : Calls Try.prog 35 #[.pointer (some ⟨B + 1, 0, none⟩)] W fun e w' => e = .returned (.agg #[.int .i64 kd, .int .i64 p, .bool wr]) ∧ Below W.heap.size W w' := by
  subst h1 h2 h3
  exact last_any (B + 1) B σ W H.1
theorem keep1 {W W' : World} {p : Addr} {v : Value} (hb : Below W.heap.size W W') (h : W.cell? p = some v) : W'.cell? p = some v := (hb.cell (World.block_lt_of_cell? _ _ h)).trans h
theorem keepM {S : List Nat} {W W' : World} {p : Addr} {v : Value} (hm : Mod S W W') (h : W.cell? p = some v) (hn : p.block ∉ S) : W'.cell? p = some v := by
  have hb := hm.block p.block (World.block_lt_of_cell? _ _ h) hn
  simpa [World.cell?, hb] using h
theorem fld0 (a b : Int) (c : Bool) (W : World) : (Instr.field 59 (.agg #[.int .i64 a, .int .i64 b, .bool c]) 0).run Try.prog W = .ok (.int .i64 a) W := by
  simp [Instr.field, run_underlying Try.underlying59, asAgg, go_sem]
theorem fld1 (a b : Int) (c : Bool) (W : World) : (Instr.field 59 (.agg #[.int .i64 a, .int .i64 b, .bool c]) 1).run Try.prog W = .ok (.int .i64 b) W := by
  simp [Instr.field, run_underlying Try.underlying59, asAgg, go_sem]
theorem fld2 (a b : Int) (c : Bool) (W : World) : (Instr.field 59 (.agg #[.int .i64 a, .int .i64 b, .bool c]) 2).run Try.prog W = .ok (.bool c) W := by
  simp [Instr.field, run_underlying Try.underlying59, asAgg, go_sem]
theorem words_at (B : Nat) (W0 W : World) (σ : Ar) (H : AtA B W0 W σ) (n : Nat) (hn : σ.t = n) : Calls Try.prog 34 #[.pointer (some ⟨B + 1, 0, none⟩)] W fun e w' => ∃ A c, e = .returned (.slice A n c) ∧ Rw B w' A c n (σ.ws.take n) ∧ Below W.heap.size W w' := by
  subst hn
  refine (words_any (B + 1) B σ W H.1).mono ?_
  rintro e w' ⟨v, rfl, hown, hb⟩
  obtain ⟨A, c, rfl, _⟩ := own_slice hown
  exact ⟨A, c, rfl, own_base hown H.2.1, hb⟩
theorem ops_at (B : Nat) (W0 W : World) (σ : Ar) (H : AtA B W0 W σ) (n : Nat) (hn : σ.ops = n) : Calls Try.prog 33 #[.pointer (some ⟨B + 1, 0, none⟩)] W fun e w' => e = .returned (.int .i64 n) ∧ w' = W := by
  subst hn
  exact ops_any (B + 1) B σ W H.1
/-- What an op has made of an arena. -/
def Stp (σ σ1 : Ar) (kd p : Int) : Prop :=
  σ1.t = σ.t ∧ σ1.ops ≤ σ.ops + 1 ∧ (σ.has p = false → σ1 = σ) ∧ (σ.has p = true → σ1.ops = σ.ops + 1 ∧ σ1.pos = p ∧ σ1.kind = kd ∧ ∀ k : Nat, σ1.ws.getD k 0 ≠ σ.ws.getD k 0 → p = (k : Int) + 1 ∧ σ1.wrote = true)
theorem stp_op (σ : Ar) (kd p v : Int) (wr : Bool) : Stp σ (σ.op kd p wr v) kd p := by
  refine ⟨?_, op_ops _ _ _ _ _, fun h => Ar.op_out h kd wr v, fun h => ?_⟩
  · unfold Ar.op; split <;> rfl
  · unfold Ar.op
    rw [if_pos h]
    refine ⟨rfl, rfl, rfl, fun k hk => ?_⟩
    cases wr
    · exact absurd rfl hk
    · refine ⟨?_, rfl⟩
      by_cases hpk : p = (k : Int) + 1
      · exact hpk
      · exfalso
        apply hk
        simp [Ar.has] at h
        show (σ.ws.set (p - 1).toNat v).getD k 0 = _
        simp only [List.getD_eq_getElem?_getD]
        rw [List.getElem?_set_ne (by omega)]
theorem AtA.drewN {B : Nat} {W0 W : World} {σ : Ar} (h : AtA B W0 W σ) (n : Nat) : AtA B W0 (W.drewN n) σ := h.base (below_drewN (Below.refl _ _) n)
def OnJ (l : List Ac) (A : Option Addr) (cap : Nat) (w : World) (a : Act) (W : World) : Prop :=
  a.tmps.size = 186 ∧ a.defers = [] ∧ a.tmps.getD 1 undef = .slice A l.length cap ∧ a.tmps.getD 5 undef = .pointer (some ⟨w.heap.size + 1, 0, none⟩) ∧
    ∃ (k : Nat) (σ : Ar), a.tmps.getD 6 undef = .int .i64 k ∧ k ≤ l.length ∧ σ.ops ≤ 2 * k ∧ AtA w.heap.size w W σ
def OnR (l : List Ac) (A : Option Addr) (cap k : Nat) (w : World) (σ : Ar) (x : Ac) (Aw : Option Addr) (cw bx : Nat) (a : Act) (W : World) : Prop :=
  a.tmps.size = 186 ∧ a.defers = [] ∧ a.tmps.getD 1 undef = .slice A l.length cap ∧ a.tmps.getD 5 undef = .pointer (some ⟨w.heap.size + 1, 0, none⟩) ∧ a.tmps.getD 6 undef = .int .i64 k ∧ a.tmps.getD 7 undef = .slice Aw σ.t cw ∧ a.tmps.getD 8 undef = .int .i64 σ.ops ∧ a.tmps.getD 9 undef = .pointer (some ⟨bx, 0, none⟩) ∧
    ∃ σ1, Stp σ σ1 x.kind x.pos ∧ AtA w.heap.size w W σ1 ∧ Rw w.heap.size W Aw cw σ.t (σ.ws.take σ.t) ∧ W.heap[bx]? = some (boxAc x)
def On2 (l : List Ac) (A : Option Addr) (cap k n : Nat) (w : World) (σ1 : Ar) (x : Ac) (Aw An : Option Addr) (cw cn bx : Nat) (b : Bool) (l0 l1 : List Int) (a : Act) (W : World) : Prop :=
  a.tmps.size = 186 ∧ a.defers = [] ∧ a.tmps.getD 1 undef = .slice A l.length cap ∧ a.tmps.getD 5 undef = .pointer (some ⟨w.heap.size + 1, 0, none⟩) ∧ a.tmps.getD 6 undef = .int .i64 k ∧ a.tmps.getD 7 undef = .slice Aw n cw ∧ a.tmps.getD 9 undef = .pointer (some ⟨bx, 0, none⟩) ∧ a.tmps.getD 10 undef = .slice An n cn ∧ a.tmps.getD 11 undef = .bool b ∧
    ∃ q : Nat, a.tmps.getD 12 undef = .int .i64 q ∧ q ≤ n ∧ AtA w.heap.size w W σ1 ∧ Rw w.heap.size W Aw cw n l0 ∧ Rw w.heap.size W An cn n l1 ∧ W.heap[bx]? = some (boxAc x)
set_option maxHeartbeats 4000000 in
set_option maxRecDepth 100000 in
theorem one_walk (t : Int) (l : List Ac) (A : Option Addr) (cap : Nat) (w : World) (hcm : l.length ≤ 60) (ht : t ≤ 100) (hs : Sl w w.heap.size A (l.flatMap decAc)) :
    Calls Try.prog 8 #[.int .i64 t, .slice A l.length cap] w fun e w' => e = .returned (.bool true) ∧ Below w.heap.size w w' := by
  have i1 : ¬ (60 : Int) < (l.length : Int) := by omega
  have i2 : ¬ (100 : Int) < t := by omega
  go_enter Try.func8, Try.ntmps8
  go_wp2_with fail
  refine (new_at t _ _ rfl).mono ?_
  rintro e w1 ⟨rfl, hat⟩
  go_wp2_with fail
  refine wp_loop (OnJ l A cap w) (fun a' _ => l.length - (intOf (a'.tmps.getD 6 undef)).toNat) ?_ ?_
  · exact ⟨rfl, rfl, rfl, rfl, 0, _, rfl, Nat.zero_le _, Nat.le_refl _, hat⟩
  · clear hat
    rintro a' W ⟨hsz, hdf, s1, s5, k, σ, s6, hk, ho, hat⟩
    obtain ⟨u, rfl, hu⟩ := frame186 hsz hdf
    rw [hu] at s1 s5 s6
    simp only [s1, s5, s6]
    clear hsz hdf s1 s5 s6 hu
    by_cases hlt : k < l.length
    · have hl0 : 0 < l.length := by omega
      go_wp2_with fail
      refine (words_at _ _ _ _ hat _ rfl).mono ?_
      rintro e W1 ⟨Aw, cw, rfl, hrw, hb1⟩
      have hat1 := hat.same hb1
      clear hat hb1
      obtain ⟨b, off, rfl, hbb, hcell⟩ := Sl_at (k := 4) (fun _ => rfl) (by omega) (hs.below hat1.2.2) (by omega)
      have h0 := hcell k hlt 0 (by omega)
      have h1 := hcell k hlt 1 (by omega)
      have h2 := hcell k hlt 2 (by omega)
      have h3 := hcell k hlt 3 (by omega)
      simp only [decAc, List.getElem?_cons_zero, List.getElem?_cons_succ, Nat.add_zero, ← Nat.add_assoc] at h0 h1 h2 h3
      clear hcell
      generalize l[k] = x at *
      obtain ⟨kd, p, xa, xb⟩ := x
      simp only at h0 h1 h2 h3
      go_wp2_with fail
      refine (ops_at _ _ _ _ hat1 _ rfl).mono ?_
      rintro e wx ⟨rfl, hwx⟩
      obtain rfl := hwx.symm
      go_upto_block 2 with fail
      have HB := Lib.hid (show (W1.alloc (boxAc ⟨kd, p, xa, xb⟩)).heap[W1.heap.size]? = some (boxAc ⟨kd, p, xa, xb⟩) from blk_new _ _)
      have hat := Lib.hid (hat1.same (below_new _ (boxAc ⟨kd, p, xa, xb⟩)))
      have hrw := Lib.hid (hrw.same (below_new _ (boxAc ⟨kd, p, xa, xb⟩)))
      have hbx := hat1.2.1
      have hO : σ.ops ≤ 1000000 := by omega
      clear hat1 h0 h1 h2 h3
      simp only [boxAc] at HB hat hrw
      generalize W1.alloc (.cells #[.int .i64 kd, .int .i64 p, .int .i64 xa, .int .i64 xb] 54) = W2 at *
      generalize W1.heap.size = bx at *
      refine wp_cut (OnR l (some ⟨b, off, none⟩) cap k w σ ⟨kd, p, xa, xb⟩ Aw cw bx) ?_ ?_
      · clear hat hrw HB
        rintro a' W3 ⟨hsz, hdf, s1, s5, s6, s7, s8, s9, σ1, hst, hat, hrw, HB⟩
        obtain ⟨u, rfl, hu⟩ := frame186 hsz hdf
        rw [hu] at s1 s5 s6 s7 s8 s9
        simp only [s1, s5, s6, s7, s8, s9]
        clear hsz hdf s1 s5 s6 s7 s8 s9 hu
        have HB := Lib.hid HB
        have hrw := Lib.hid hrw
        have HS := Lib.hid hst
        have hol := hst.2.1
        clear hst
        simp only at HS
        go_wp2_with fail
        refine (words_at _ _ _ _ hat _ HS.out.1).mono ?_
        rintro e W4 ⟨An, cn, rfl, hrn, hb4⟩
        have hat4 := hat.same hb4
        have HB4 := (Mod.of_below (S := []) hb4).blk HB.out (by simp)
        have hrw4 := Lib.hid (hrw.out.same hb4)
        have hrn := Lib.hid hrn
        obtain ⟨c0, c1, c2, c3⟩ := cellsA HB4
        have HB4 := Lib.hid HB4
        clear hat hb4 HB hrw
        simp only at c0 c1 c2 c3
        have e1 := nbne_no (rfl : σ.t = σ.t)
        cases hb : σ.has p
        · obtain rfl : σ = σ1 := (HS.out.2.2.1 hb).symm
          rcases (Ar.not_has hb) with hp | hp
          · clear hb
            have e3 := ibeq_no (show ¬ (σ.ops : Int) = (σ.ops : Int) + 1 by omega)
            have e4 := nbne_no (rfl : σ.ops = σ.ops)
            go_wp2_with fail
            refine (ops_at _ _ _ _ hat4 _ rfl).mono ?_
            rintro e wx ⟨rfl, hwx⟩
            obtain rfl := hwx.symm
            go_wp2_with fail
            refine (ops_at _ _ _ _ hat4 _ rfl).mono ?_
            rintro e wx ⟨rfl, hwx⟩
            obtain rfl := hwx.symm
            go_wp2_with fail
            clear e3 e4 c0 c1 c2 c3
            refine wp_loop (On2 l (some ⟨b, off, none⟩) cap k σ.t w σ ⟨kd, p, xa, xb⟩ Aw An cw cn bx false (σ.ws.take σ.t) (σ.ws.take σ.t)) (fun a' _ => σ.t - (intOf (a'.tmps.getD 12 undef)).toNat) ?_ ?_
            · exact ⟨rfl, rfl, rfl, rfl, rfl, rfl, rfl, rfl, rfl, 0, rfl, Nat.zero_le _, hat4, hrw4.out, hrn.out, HB4.out⟩
            · clear hat4 hrw4 hrn HB4
              rintro a' W5 ⟨hsz, hdf, s1, s5, s6, s7, s9, s10, s11, q, s12, hq, hat, hrw, hrn, HB⟩
              obtain ⟨u, rfl, hu⟩ := frame186 hsz hdf
              rw [hu] at s1 s5 s6 s7 s9 s10 s11 s12
              simp only [s1, s5, s6, s7, s9, s10, s11, s12]
              clear hsz hdf s1 s5 s6 s7 s9 s10 s11 s12 hu
              have HB := Lib.hid HB
              have htl := hat.1.1
              have htm := hat.1.2.1
              by_cases hqt : q < σ.t
              · obtain ⟨b0, o0, rfl, g0⟩ := hrw.cell q (by rw [List.length_take]; omega)
                obtain ⟨b1, o1, rfl, g1⟩ := hrn.cell q (by rw [List.length_take]; omega)
                have hrw := Lib.hid hrw
                have hrn := Lib.hid hrn
                generalize (σ.ws.take σ.t).getD q 0 = y at *
                have e5 := ibne_no (rfl : y = y)
                go_wp2_with fail
                go_quiet (fail)
                go_wp2_with fail
                exact ⟨⟨rfl, rfl, rfl, rfl, rfl, rfl, rfl, rfl, rfl, q + 1, rfl, hqt, hat.drewN _, hrw.out, hrn.out, HB.out⟩, by simp [intOf]; omega⟩
              · clear hrw hrn
                go_wp2_with fail
                go_quiet (fail)
                go_wp2_with fail
                exact ⟨⟨rfl, rfl, rfl, rfl, k + 1, σ, rfl, hlt, by omega, hat.drewN _⟩, by simp [intOf]; omega⟩
          · clear hb
            have hp1 : 1 ≤ p := by omega
            have e6 : decide (p ≤ (σ.t : Int)) = false := by simp; omega
            have e3 := ibeq_no (show ¬ (σ.ops : Int) = (σ.ops : Int) + 1 by omega)
            have e4 := nbne_no (rfl : σ.ops = σ.ops)
            go_wp2_with fail
            refine (ops_at _ _ _ _ hat4 _ rfl).mono ?_
            rintro e wx ⟨rfl, hwx⟩
            obtain rfl := hwx.symm
            go_wp2_with fail
            refine (ops_at _ _ _ _ hat4 _ rfl).mono ?_
            rintro e wx ⟨rfl, hwx⟩
            obtain rfl := hwx.symm
            go_wp2_with fail
            clear e3 e4 c0 c1 c2 c3
            refine wp_loop (On2 l (some ⟨b, off, none⟩) cap k σ.t w σ ⟨kd, p, xa, xb⟩ Aw An cw cn bx false (σ.ws.take σ.t) (σ.ws.take σ.t)) (fun a' _ => σ.t - (intOf (a'.tmps.getD 12 undef)).toNat) ?_ ?_
            · exact ⟨rfl, rfl, rfl, rfl, rfl, rfl, rfl, rfl, rfl, 0, rfl, Nat.zero_le _, hat4, hrw4.out, hrn.out, HB4.out⟩
            · clear hat4 hrw4 hrn HB4
              rintro a' W5 ⟨hsz, hdf, s1, s5, s6, s7, s9, s10, s11, q, s12, hq, hat, hrw, hrn, HB⟩
              obtain ⟨u, rfl, hu⟩ := frame186 hsz hdf
              rw [hu] at s1 s5 s6 s7 s9 s10 s11 s12
              simp only [s1, s5, s6, s7, s9, s10, s11, s12]
              clear hsz hdf s1 s5 s6 s7 s9 s10 s11 s12 hu
              have HB := Lib.hid HB
              have htl := hat.1.1
              have htm := hat.1.2.1
              by_cases hqt : q < σ.t
              · obtain ⟨b0, o0, rfl, g0⟩ := hrw.cell q (by rw [List.length_take]; omega)
                obtain ⟨b1, o1, rfl, g1⟩ := hrn.cell q (by rw [List.length_take]; omega)
                have hrw := Lib.hid hrw
                have hrn := Lib.hid hrn
                generalize (σ.ws.take σ.t).getD q 0 = y at *
                have e5 := ibne_no (rfl : y = y)
                go_wp2_with fail
                go_quiet (fail)
                go_wp2_with fail
                exact ⟨⟨rfl, rfl, rfl, rfl, rfl, rfl, rfl, rfl, rfl, q + 1, rfl, hqt, hat.drewN _, hrw.out, hrn.out, HB.out⟩, by simp [intOf]; omega⟩
              · clear hrw hrn
                go_wp2_with fail
                go_quiet (fail)
                go_wp2_with fail
                exact ⟨⟨rfl, rfl, rfl, rfl, k + 1, σ, rfl, hlt, by omega, hat.drewN _⟩, by simp [intOf]; omega⟩
        · obtain ⟨q1, hq1, rfl⟩ : ∃ q1 : Nat, q1 < σ.t ∧ p = (q1 : Int) + 1 := by
            rcases σ.cases p with h | h
            · rw [h] at hb; cases hb
            · exact h
          have HI := Lib.hid (HS.out.2.2.2 hb)
          have hgt := Lib.hid (Ar.get_in (σ := σ1) (k := q1) (by rw [HS.out.1]; exact hq1))
          have hL1 := Lib.hid (show (σ1.ws.take σ.t).length = σ.t by rw [List.length_take]; have := hat4.1.1; have := HS.out.1; omega)
          have hL0 := Lib.hid (show (σ.ws.take σ.t).length = σ.t by rw [List.length_take]; have := hrw4.out.1; simp at this; omega)
          have htm : σ.t ≤ 4096 := by have := hat4.1.1; have := hat4.1.2.1; have := HS.out.1; omega
          clear hb
          have e6 : decide ((q1 : Int) + 1 ≤ (σ.t : Int)) = true := by simp; omega
          go_wp2_with fail
          refine (ops_at _ _ _ σ1 hat4 (σ.ops + 1) HI.out.1).mono ?_
          rintro e wx ⟨rfl, hwx⟩
          obtain rfl := hwx.symm
          go_wp2_with fail
          clear c0 c1 c2 c3 e6
          refine wp_loop (On2 l (some ⟨b, off, none⟩) cap k σ.t w σ1 ⟨kd, (q1 : Int) + 1, xa, xb⟩ Aw An cw cn bx true (σ.ws.take σ.t) (σ1.ws.take σ.t)) (fun a' _ => σ.t - (intOf (a'.tmps.getD 12 undef)).toNat) ?_ ?_
          · exact ⟨rfl, rfl, rfl, rfl, rfl, rfl, rfl, rfl, rfl, 0, rfl, Nat.zero_le _, hat4, hrw4.out, hrn.out, HB4.out⟩
          · clear hat4 hrw4 hrn HB4
            rintro a' W5 ⟨hsz, hdf, s1, s5, s6, s7, s9, s10, s11, q, s12, hq, hat, hrw, hrn, HB⟩
            obtain ⟨u, rfl, hu⟩ := frame186 hsz hdf
            rw [hu] at s1 s5 s6 s7 s9 s10 s11 s12
            simp only [s1, s5, s6, s7, s9, s10, s11, s12]
            clear hsz hdf s1 s5 s6 s7 s9 s10 s11 s12 hu
            by_cases hqt : q < σ.t
            · obtain ⟨b0, o0, rfl, g0⟩ := hrw.cell q (by rw [hL0.out]; omega)
              obtain ⟨b1, o1, rfl, g1⟩ := hrn.cell q (by rw [hL1.out]; omega)
              have hrw := Lib.hid hrw
              have hrn := Lib.hid hrn
              by_cases hy : (σ1.ws.take σ.t).getD q 0 = (σ.ws.take σ.t).getD q 0
              · rw [hy] at g1
                have HB := Lib.hid HB
                clear hy
                generalize (σ.ws.take σ.t).getD q 0 = y at *
                have e5 := ibne_no (rfl : y = y)
                go_wp2_with fail
                go_quiet (fail)
                go_wp2_with fail
                exact ⟨⟨rfl, rfl, rfl, rfl, rfl, rfl, rfl, rfl, rfl, q + 1, rfl, hqt, hat.drewN _, hrw.out, hrn.out, HB.out⟩, by simp [intOf]; omega⟩
              · obtain ⟨hqq, hwr⟩ := HI.out.2.2.2 q (by rw [← getD_take _ _ _ hqt, ← getD_take σ.ws _ _ hqt]; exact hy)
                obtain rfl : q1 = q := by omega
                obtain ⟨x0, x1, _, _⟩ := cellsA HB
                simp only at x0 x1
                have HB := Lib.hid HB
                have HW := Lib.hid hwr
                have hat9 := Lib.hid (hat.same (drew0 (W := W5)))
                have e5 := ibne hy
                have f2 := fun a b c W => fld2 a b c W
                have e9 := ibne_no (rfl : (q1 : Int) + 1 = (q1 : Int) + 1)
                have e8 : IntKind.i64.wrap ((q1 : Int) + 1) = (q1 : Int) + 1 := IntWalk.i64_in _ (by omega)
                clear hqq hwr hy hat x0
                generalize (σ.ws.take σ.t).getD q1 0 = y0 at *
                generalize (σ1.ws.take σ.t).getD q1 0 = y1 at *
                go_wp2_with fail
                go_region_held3 (fun V => V.cell? ⟨bx, 1, none⟩ = some (.int .i64 ((q1 : Int) + 1)) ∧ V.cell? ⟨b1, o1 + q1, none⟩ = some (.int .i64 y1) ∧ V.cell? ⟨b0, o0 + q1, none⟩ = some (.int .i64 y0))
                  (first | exact ⟨x1, g1, g0⟩ | exact k6)
                  ((go_at_call 35; refine (last_q _ _ _ σ1 hat9.out kd ((q1 : Int) + 1) true HI.out.2.2.1 HI.out.2.1 HW.out).mono ?_; rintro e w6 ⟨rfl, hb6⟩; have hB6 : Below W5.heap.size W5 w6 := drew0.trans hb6; have k6 := And.intro (keep1 hB6 x1) (And.intro (keep1 hB6 g1) (keep1 hB6 g0))))
                go_wp2_with fail
                exact ⟨⟨rfl, rfl, rfl, rfl, rfl, rfl, rfl, rfl, rfl, q1 + 1, rfl, hqt, hat9.out.same hb6, hrw.out.same hB6, hrn.out.same hB6, (Mod.of_below (S := []) hB6).blk HB.out (by simp)⟩, by simp [intOf]; omega⟩
            · obtain ⟨b1, o1, rfl, g1⟩ := hrn.cell q1 (by rw [hL1.out]; omega)
              obtain ⟨x0, x1, _, _⟩ := cellsA HB
              simp only at x0 x1
              have HZ := Lib.hid (show σ1.get ((q1 : Int) + 1) = (σ1.ws.take σ.t).getD q1 0 by rw [hgt.out, getD_take _ _ _ hq1])
              have hat9 := Lib.hid (hat.same (drew0 (W := W5)))
              have hO1 : σ1.ops ≤ 1000000 := by have := HI.out.1; omega
              have HO := Lib.hid (show (σ1.op 1 ((q1 : Int) + 1) false 0).ops ≤ 2 * (k + 1) by have := op_ops σ1 1 ((q1 : Int) + 1) 0 false; have := HI.out.1; omega)
              have hbg : b1 ≠ w.heap.size ∧ b1 ≠ w.heap.size + 1 := by
                rcases hrn.2 with h | ⟨g, c', cur, h, hb', _⟩
                · cases h.1
                · injection h with h _ _
                  injection h with h
                  injection h with h _ _
                  omega
              clear hrw hrn HB hat
              generalize (σ1.ws.take σ.t).getD q1 0 = z at *
              have e5 := ibne_no (rfl : z = z)
              have e7 := ibne_no (rfl : kd = kd)
              have e9 := ibne_no (rfl : (q1 : Int) + 1 = (q1 : Int) + 1)
              have f0 := fun a b c W => fld0 a b c W
              have f1 := fun a b c W => fld1 a b c W
              have e11 : (q1 : Int) < (σ.t : Int) := by omega
              have e12 : (0 : Int) ≤ (q1 : Int) := by omega
              have e13 : IntKind.i64.wrap (q1 : Int) = (q1 : Int) := IntWalk.i64_in _ (by omega)
              have e14 : (q1 : Int).toNat = q1 := by omega
              have e10 : IntKind.i64.wrap ((q1 : Int) + 1 - 1) = (q1 : Int) := by rw [IntWalk.i64_in _ (by omega)]; omega
              go_wp2_with fail
              go_region_held3 (fun V => V.cell? ⟨bx, 0, none⟩ = some (.int .i64 kd) ∧ V.cell? ⟨bx, 1, none⟩ = some (.int .i64 ((q1 : Int) + 1)) ∧ V.cell? ⟨b1, o1 + q1, none⟩ = some (.int .i64 z))
                (first | exact ⟨x0, x1, g1⟩ | exact k8 | exact k7 | exact k6)
                (first
                  | (go_at_call 35; refine (last_q _ _ _ σ1 hat9.out kd ((q1 : Int) + 1) _ HI.out.2.2.1 HI.out.2.1 rfl).mono ?_; rintro e w6 ⟨rfl, hb6⟩; have hB6 : Below W5.heap.size W5 w6 := drew0.trans hb6; have hat6 := hat9.out.same hb6; have k6 := And.intro (keep1 hB6 x0) (And.intro (keep1 hB6 x1) (keep1 hB6 g1)))
                  | (go_at_call 35; refine (last_q _ _ _ σ1 hat6 kd ((q1 : Int) + 1) _ HI.out.2.2.1 HI.out.2.1 rfl).mono ?_; rintro e w7 ⟨rfl, hb7⟩; have hat7 := hat6.same hb7; have k7 := And.intro (keep1 hb7 k6.1) (And.intro (keep1 hb7 k6.2.1) (keep1 hb7 k6.2.2)))
                  | (go_at_call 37; refine (load_at _ _ _ σ1 _ hat7 hO1 ((q1 : Int) + 1) z HZ.out rfl).mono ?_; rintro e w8 ⟨rfl, hat8, hm8⟩; have k8 := And.intro (keepM hm8 k7.1 (by simp; omega)) (And.intro (keepM hm8 k7.2.1 (by simp; omega)) (keepM hm8 k7.2.2 (by simp; omega)))))
              go_wp2_with fail
              exact ⟨⟨rfl, rfl, rfl, rfl, k + 1, _, rfl, hlt, HO.out, hat8⟩, by simp [intOf]; omega⟩
      · intro J K' hJ hK'
        obtain ⟨c0, c1, c2, c3⟩ := cellsA (x := ⟨kd, p, xa, xb⟩) HB.out
        by_cases hk : kd < 0 ∨ 5 < kd
        · have k0 := ibeq_no (show ¬ kd = 0 by omega)
          have k1 := ibeq_no (show ¬ kd = 1 by omega)
          have k2 := ibeq_no (show ¬ kd = 2 by omega)
          have k3 := ibeq_no (show ¬ kd = 3 by omega)
          have k4 := ibeq_no (show ¬ kd = 4 by omega)
          have k5 := ibeq_no (show ¬ kd = 5 by omega)
          clear hk
          go_wp2_with fail
          exact ⟨⟨rfl, rfl, rfl, rfl, k + 1, σ, rfl, hlt, by omega, hat.out⟩, by simp [intOf]; omega⟩
        rcases (show kd = 0 ∨ kd = 1 ∨ kd = 2 ∨ kd = 3 ∨ kd = 4 ∨ kd = 5 by omega) with rfl | rfl | rfl | rfl | rfl | rfl
        all_goals
          clear hk
          go_wp2_with fail
        · refine (take_any _ _ σ _ hat.out.1 xa).mono ?_
          rintro e W3 ⟨rfl, h4, hm⟩
          clear c0 c1 c2 c3
          go_wp2_with fail
          exact ⟨⟨rfl, rfl, rfl, rfl, k + 1, _, rfl, hlt, by rw [take_ops]; omega, hat.out.mod h4 hm⟩, by simp [intOf]; omega⟩
        · refine (load_any _ _ σ _ hat.out.1 hO p).mono ?_
          rintro e W3 ⟨rfl, h4, hm⟩
          clear c0 c1 c2 c3
          go_wp2_with fail
        
          all_goals exact Met.intro (hJ _ _ ⟨rfl, rfl, rfl, rfl, rfl, rfl, rfl, rfl, _, stp_op _ _ _ _ _, hat.out.mod h4 hm, hrw.out.mod hm, hm.blk HB.out (by simp; omega)⟩)
        · refine (store_any _ _ σ _ hat.out.1 hO p xa).mono ?_
          rintro e W3 ⟨rfl, h4, hm⟩
          clear c0 c1 c2 c3
          go_wp2_with fail
        
          all_goals exact Met.intro (hJ _ _ ⟨rfl, rfl, rfl, rfl, rfl, rfl, rfl, rfl, _, stp_op _ _ _ _ _, hat.out.mod h4 hm, hrw.out.mod hm, hm.blk HB.out (by simp; omega)⟩)
        · refine (swap_any _ _ σ _ hat.out.1 hO p xa).mono ?_
          rintro e W3 ⟨rfl, h4, hm⟩
          clear c0 c1 c2 c3
          go_wp2_with fail
        
          all_goals exact Met.intro (hJ _ _ ⟨rfl, rfl, rfl, rfl, rfl, rfl, rfl, rfl, _, stp_op _ _ _ _ _, hat.out.mod h4 hm, hrw.out.mod hm, hm.blk HB.out (by simp; omega)⟩)
        · refine (cas_any _ _ σ _ hat.out.1 hO p xa xb).mono ?_
          rintro e W3 ⟨rfl, h4, hm⟩
          clear c0 c1 c2 c3
          go_wp2_with fail
        
          all_goals exact Met.intro (hJ _ _ ⟨rfl, rfl, rfl, rfl, rfl, rfl, rfl, rfl, _, stp_op _ _ _ _ _, hat.out.mod h4 hm, hrw.out.mod hm, hm.blk HB.out (by simp; omega)⟩)
        · refine (add_any _ _ σ _ hat.out.1 hO p xa).mono ?_
          rintro e W3 ⟨rfl, h4, hm⟩
          clear c0 c1 c2 c3
          go_wp2_with fail
        
          all_goals exact Met.intro (hJ _ _ ⟨rfl, rfl, rfl, rfl, rfl, rfl, rfl, rfl, _, stp_op _ _ _ _ _, hat.out.mod h4 hm, hrw.out.mod hm, hm.blk HB.out (by simp; omega)⟩)
    · go_wp2_with fail
      refine (awake_any _).mono ?_
      rintro e W3 ⟨rfl, hb⟩
      go_wp2_with fail
      go_ret
      exact ⟨rfl, hat.2.2.trans (hb.mono (by have := hat.2.1; omega))⟩
set_option maxRecDepth 100000 in
theorem one_law (w : World) (t : Int) (_h0 : isI64 t) (A : Option Addr) (c : Nat) (l : List Ac) (hc : l.length ≤ c) (hm : c ≤ maxLen) (_w0 : ∀ e ∈ l, isI64 e.kind ∧ isI64 e.pos ∧ isI64 e.a ∧ isI64 e.b) (hs : Sl w w.heap.size A (l.flatMap decAc)) :
    Calls Try.prog 8 #[.int .i64 t, .slice A l.length c] w fun e w' => e = .returned (.bool true) ∧ Below w.heap.size w w' := by
  by_cases hle : l.length ≤ 60
  · by_cases hle2 : t ≤ 100
    · exact one_walk t l A c w hle hle2 hs
    · have i1 : ¬ (60 : Int) < (l.length : Int) := by omega
      have i2 : (100 : Int) < t := by omega
      have hcm : (l.length : Int) ≤ 9223372036854775807 := by omega
      go_enter Try.func8, Try.ntmps8
      go_wp2_with fail
      refine (awake_any _).mono ?_
      rintro e W3 ⟨rfl, hb⟩
      go_wp2_with fail
      go_ret
      exact ⟨rfl, hb⟩
  · have i1 : (60 : Int) < (l.length : Int) := by omega
    go_enter Try.func8, Try.ntmps8
    go_wp2_with fail
    refine (awake_any _).mono ?_
    rintro e W3 ⟨rfl, hb⟩
    go_wp2_with fail
    go_ret
    exact ⟨rfl, hb⟩
end Go.Proofs.Ytfdcojhgpfmloaa.Ara
