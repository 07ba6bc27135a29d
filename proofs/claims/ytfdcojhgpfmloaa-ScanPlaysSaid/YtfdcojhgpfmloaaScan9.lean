/- Layer 30's law ScanPlays. -/
import Derived.Test.YtfdcojhgpfmloaaScan6
import Derived.Test.YtfdcojhgpfmloaaScan8
import Derived.Test.YtfdcojhgpfmloaaScan7
import Derived.Test.YtfdcojhgpfmloaaReg
import Derived.Deep.RegionHeld3
import Derived.Deep.RegionWith
namespace Go.Proofs.Ytfdcojhgpfmloaa.Ara
open Go.RowKit

theorem frame156 {a : Act} (h : a.tmps.size = 156) (hd : a.defers = []) : ∃ u : Nat → Value, a = { tmps := #[u 0, u 1, u 2, u 3, u 4, u 5, u 6, u 7, u 8, u 9, u 10, u 11, u 12, u 13, u 14, u 15, u 16, u 17, u 18, u 19, u 20, u 21, u 22, u 23, u 24, u 25, u 26, u 27, u 28, u 29, u 30, u 31, u 32, u 33, u 34, u 35, u 36, u 37, u 38, u 39, u 40, u 41, u 42, u 43, u 44, u 45, u 46, u 47, u 48, u 49, u 50, u 51, u 52, u 53, u 54, u 55, u 56, u 57, u 58, u 59, u 60, u 61, u 62, u 63, u 64, u 65, u 66, u 67, u 68, u 69, u 70, u 71, u 72, u 73, u 74, u 75, u 76, u 77, u 78, u 79, u 80, u 81, u 82, u 83, u 84, u 85, u 86, u 87, u 88, u 89, u 90, u 91, u 92, u 93, u 94, u 95, u 96, u 97, u 98, u 99, u 100, u 101, u 102, u 103, u 104, u 105, u 106, u 107, u 108, u 109, u 110, u 111, u 112, u 113, u 114, u 115, u 116, u 117, u 118, u 119, u 120, u 121, u 122, u 123, u 124, u 125, u 126, u 127, u 128, u 129, u 130, u 131, u 132, u 133, u 134, u 135, u 136, u 137, u 138, u 139, u 140, u 141, u 142, u 143, u 144, u 145, u 146, u 147, u 148, u 149, u 150, u 151, u 152, u 153, u 154, u 155], defers := [] } ∧ ∀ n, a.tmps.getD n undef = u n := by
  refine ⟨fun n => a.tmps.getD n undef, ?_, fun _ => rfl⟩
  have h1 := arr_lit a.tmps h
  cases a with
  | mk t d =>
    simp only at hd h1
    subst hd
    congr 1
/-- Both walks stand alike. -/
def Sim (s : Wk) (κ : Rk) : Prop := s.node = κ.node ∧ s.way = κ.way ∧ s.passed = κ.ps.length ∧ s.last = κ.lastw ∧ s.found = κ.found
theorem sim_take {ns : List Int} {s : Wk} {κ : Rk} (h : Sim s κ) (x : Int) : Sim (s.take ns x) (κ.take ns x) := by
  obtain ⟨h1, h2, h3, h4, h5⟩ := h
  unfold Wk.take Rk.take
  rw [h1, h3]
  split
  · exact ⟨rfl, rfl, rfl, h4, h5⟩
  · split
    · exact ⟨rfl, rfl, rfl, h4, rfl⟩
    · exact ⟨rfl, rfl, by simp, by simp [Rk.lastw], h5⟩
theorem sim_first {s : Wk} {κ : Rk} (h : s.way = κ.way) (nd : Int) : Sim (s.first nd) (κ.first nd) := ⟨rfl, h, rfl, rfl, rfl⟩
theorem sim_next {ns : List Int} {pos step : Int} {σ : Ar} {ρ : Rf} {s : Wk} {κ : Rk} (h : Sim s κ) (ha : Alk σ ρ) : Sim (s.next ns pos step σ) (κ.next ns pos step ρ) ∧ Alk (stepA pos step σ s) (stepR pos step ρ κ) := by
  unfold Wk.next Rk.next stepA stepR
  rw [h.2.1, h.2.2.2.1, ha.get]
  split
  · exact ⟨sim_take h _, ha.op 1 _ _ _⟩
  · exact ⟨h, ha⟩
structure Q4 where
  a : Int
  b : Int
  c : Int
  d : Int
def decQ (q : Q4) : List Value := [.int .i64 q.a, .int .i64 q.b, .int .i64 q.c, .int .i64 q.d]
theorem reads_q4 {H : Type} {enc : TypeId × Value → H} : Reads enc Try.prog 80 decQ (fun _ => True) := by
  intro w base spare held fuel cs x h
  obtain ⟨l, h1, h2, _⟩ := reads_arr (dec := fun n : Int => [Value.int .i64 n]) Try.underlying80 (by kernel_rfl) (reads_i64 Try.underlying3) w base spare held fuel cs x h
  obtain ⟨a, b, c, d, rfl⟩ := list4 h2
  exact ⟨⟨a, b, c, d⟩, h1, trivial⟩
/-- Both arenas, as laid left them. -/
def Ars (B br : Nat) (v : Value) (w W : World) (σ : Ar) (ρ : Rf) : Prop :=
  ArAt W (B + 1) B σ ∧ RfV W (B + 1 + 1) (B + 1 + 1 + 1) v ρ ∧ Alk σ ρ ∧ (∀ b, v.ownBlock = some b → b < br) ∧ B + 1 + 1 + 1 ≤ br ∧ br ≤ W.heap.size ∧ Below B w W
def PlJ (l : List Q4) (Al : Option Addr) (cl : Nat) (ns : List Int) (An : Option Addr) (cn br : Nat) (v : Value) (w : World) (a : Act) (W : World) : Prop :=
  a.tmps.size = 156 ∧ a.defers = [] ∧ a.tmps.getD 1 undef = .slice An ns.length cn ∧ a.tmps.getD 2 undef = .slice Al l.length cl ∧ a.tmps.getD 7 undef = .pointer (some ⟨w.heap.size + 1, 0, none⟩) ∧ a.tmps.getD 8 undef = .pointer (some ⟨w.heap.size + 1 + 1, 0, none⟩) ∧
    ∃ (i : Nat) (σ : Ar) (ρ : Rf), a.tmps.getD 9 undef = .int .i64 i ∧ i ≤ l.length ∧ σ.ops ≤ 30 + 14 * i ∧ Ars w.heap.size br v w W σ ρ
/-- Both walks, over both arenas. -/
def Wks (n gy base br0 : Nat) (v : Value) (pos step : Int) (An : Option Addr) (cn : Nat) (ns : List Int) (w W : World) (σ : Ar) (ρ : Rf) (s : Wk) (κ : Rk) : Prop :=
  Sc W n (w.heap.size + 1) w.heap.size ns pos step σ s ∧ Rs W gy base (w.heap.size + 1 + 1) (w.heap.size + 1 + 1 + 1) v pos step An cn ns ρ κ ∧ Alk σ ρ ∧ Sim s κ ∧ n + 1 + 1 + 1 + 1 < gy ∧ (∀ b, v.ownBlock = some b → b < br0) ∧ br0 ≤ n ∧ w.heap.size + 1 + 1 + 1 ≤ br0 ∧ Below w.heap.size w W
theorem Wks.ars {n gy base br0 : Nat} {v : Value} {pos step : Int} {An : Option Addr} {cn : Nat} {ns : List Int} {w W : World} {σ : Ar} {ρ : Rf} {s : Wk} {κ : Rk} (k : Wks n gy base br0 v pos step An cn ns w W σ ρ s κ) : Ars w.heap.size br0 v w W σ ρ := by
  obtain ⟨k1, k2, k3, _, k5, k6, k7, k8, k9⟩ := k
  exact ⟨k1.2.1, k2.2.1, k3, k6, k8, by have := k1.1.lt; omega, k9⟩
/-- The walk has turned. -/
theorem Wks.mine {n gy base br0 : Nat} {v : Value} {pos step : Int} {An : Option Addr} {cn : Nat} {ns : List Int} {w W W' : World} {σ σ' : Ar} {ρ : Rf} {s s' : Wk} {κ : Rk} (k : Wks n gy base br0 v pos step An cn ns w W σ ρ s κ) (hs : Sc W' n (w.heap.size + 1) w.heap.size ns pos step σ' s') (hm : Mod [n + 1 + 1 + 1 + 1, w.heap.size + 1, w.heap.size] W W')
    (hA : ns = [] ∨ ∀ b off, An = some ⟨b, off, none⟩ → b < w.heap.size) : Rs W' gy base (w.heap.size + 1 + 1) (w.heap.size + 1 + 1 + 1) v pos step An cn ns ρ κ ∧ Below w.heap.size w W' := by
  obtain ⟨k1, k2, k3, k4, k5, k6, k7, k8, k9⟩ := k
  obtain ⟨r1, r2, r3⟩ := k2
  have hg := r1.1
  have hz : n + 1 + 1 + 1 + 1 < W.heap.size := k1.1.lt
  refine ⟨⟨r1.mod (Upd.of_mod hm (Nat.le_refl _)) (by simp; omega) (hA.imp id (fun hA x hx b off e => ?_)), r2.upd (Upd.of_mod hm (Nat.le_refl _)) (by omega) (by simp; omega) (fun b hb => ⟨(r2.block b hb).1, ?_⟩), r3⟩, k9.trans (hm.below (by omega) (by simp; omega))⟩
  · have := hA b off e
    simp at hx
    omega
  · have h1 := (r2.block b hb).2
    have h2 := k6 b hb
    simp
    omega
/-- The document's has turned. -/
theorem Wks.his {n gy base : Nat} {pos step : Int} {ns : List Int} {w W W' : World} {σ : Ar} {s : Wk} (k1 : Sc W n (w.heap.size + 1) w.heap.size ns pos step σ s) (k5 : n + 1 + 1 + 1 + 1 < gy) (hgb : gy < base) (hz : base ≤ W.heap.size) (k9 : Below w.heap.size w W) (hbn : w.heap.size + 1 + 1 + 1 ≤ n)
    (hu : Upd base [gy, w.heap.size + 1 + 1] W W') : Sc W' n (w.heap.size + 1) w.heap.size ns pos step σ s ∧ Below w.heap.size w W' := by
  obtain ⟨c1, c2, c3, c4⟩ := k1
  obtain ⟨w1, A, w2, w3⟩ := c1
  obtain ⟨l1, l2, l3⟩ := c3
  refine ⟨⟨⟨w1, A, hu.blk w2 (by omega) (by simp; omega), ?_⟩, c2.upd hu (by omega) (by omega) (by simp; omega) (by simp; omega), ⟨hu.blk l1 (by omega) (by simp; omega), hu.blk l2 (by omega) (by simp; omega), hu.blk l3 (by omega) (by simp; omega)⟩, c4⟩, k9.trans (hu.below (by omega) (by simp; omega))⟩
  rcases w3 with w3 | ⟨a, b, c⟩
  · exact .inl w3
  · exact .inr ⟨a, b, hu.blk c (by omega) (by simp; omega)⟩
theorem Wks.drew {n gy base br0 : Nat} {v : Value} {pos step : Int} {An : Option Addr} {cn : Nat} {ns : List Int} {w W : World} {σ : Ar} {ρ : Rf} {s : Wk} {κ : Rk} (k : Wks n gy base br0 v pos step An cn ns w W σ ρ s κ) : Wks n gy base br0 v pos step An cn ns w W.drew σ ρ s κ :=
  ⟨k.1.same drew0s, k.2.1, k.2.2.1, k.2.2.2.1, k.2.2.2.2.1, k.2.2.2.2.2.1, k.2.2.2.2.2.2.1, k.2.2.2.2.2.2.2.1, k.2.2.2.2.2.2.2.2.trans (drew0s.mono (by have := k.1.1.lt; have := k.1.2.2.2.1; omega))⟩
theorem keepU {B : Nat} {S : List Nat} {W W' : World} {p : Addr} {v : Value} (hm : Upd B S W W') (h : W.cell? p = some v) (hB : p.block < B) (hn : p.block ∉ S) : W'.cell? p = some v := by
  have hb := hm.block p.block hB hn
  simpa [World.cell?, hb] using h
theorem next_way {ns : List Int} (pos step : Int) (σ : Ar) (s : Wk) : (s.next ns pos step σ).way = true → 1 ≤ (s.next ns pos step σ).last ∧ (s.next ns pos step σ).last ≤ ns.length := by
  unfold Wk.next
  cases hw : s.way
  · rw [if_neg (by decide)]
    intro e
    rw [hw] at e
    cases e
  · rw [if_pos rfl]
    unfold Wk.take
    split
    · intro e; cases e
    · split
      · intro e; cases e
      · intro _
        rename_i h _
        exact ⟨by show 1 ≤ σ.get (pos + step * (s.last - 1)); omega, by show σ.get (pos + step * (s.last - 1)) ≤ _; omega⟩
theorem Wks.drewN {n gy base br0 : Nat} {v : Value} {pos step : Int} {An : Option Addr} {cn : Nat} {ns : List Int} {w W : World} {σ : Ar} {ρ : Rf} {s : Wk} {κ : Rk} (k : Wks n gy base br0 v pos step An cn ns w W σ ρ s κ) (m : Nat) : Wks n gy base br0 v pos step An cn ns w (W.drewN m) σ ρ s κ :=
  ⟨k.1.same (below_drewN (Below.refl _ _) m), k.2.1, k.2.2.1, k.2.2.2.1, k.2.2.2.2.1, k.2.2.2.2.2.1, k.2.2.2.2.2.2.1, k.2.2.2.2.2.2.2.1, below_drewN k.2.2.2.2.2.2.2.2 m⟩
def Pl2 (l : List Q4) (Al : Option Addr) (cl i : Nat) (ns : List Int) (An : Option Addr) (cn br n gy base : Nat) (v : Value) (pos step : Int) (w : World) (a : Act) (W : World) : Prop :=
  a.tmps.size = 156 ∧ a.defers = [] ∧ a.tmps.getD 1 undef = .slice An ns.length cn ∧ a.tmps.getD 2 undef = .slice Al l.length cl ∧ a.tmps.getD 7 undef = .pointer (some ⟨w.heap.size + 1, 0, none⟩) ∧ a.tmps.getD 8 undef = .pointer (some ⟨w.heap.size + 1 + 1, 0, none⟩) ∧ a.tmps.getD 9 undef = .int .i64 i ∧
    a.tmps.getD 12 undef = .pointer (some ⟨n + 1 + 1 + 1 + 1, 0, none⟩) ∧ a.tmps.getD 13 undef = .pointer (some ⟨gy, 0, none⟩) ∧
    ∃ (k : Nat) (σ : Ar) (ρ : Rf) (s : Wk) (κ : Rk), a.tmps.getD 14 undef = .int .i64 k ∧ k ≤ 14 ∧ σ.ops ≤ 30 + 14 * i + k ∧ Wks n gy base br v pos step An cn ns w W σ ρ s κ ∧ (s.way = true → 1 ≤ s.last ∧ s.last ≤ ns.length) ∧ s.passed ≤ ns.length
theorem Ars.drewN {B br : Nat} {v : Value} {w W : World} {σ : Ar} {ρ : Rf} (k : Ars B br v w W σ ρ) (n : Nat) : Ars B br v w (W.drewN n) σ ρ :=
  ⟨k.1, k.2.1, k.2.2.1, k.2.2.2.1, k.2.2.2.2.1, k.2.2.2.2.2.1, below_drewN k.2.2.2.2.2.2 n⟩
set_option maxHeartbeats 8000000 in
set_option maxRecDepth 100000 in
theorem plays30 (ws : List Int) (Aw : Option Addr) (cw : Nat) (ns : List Int) (An : Option Addr) (cn : Nat) (l : List Q4) (Al : Option Addr) (cl : Nat) (w : World) (hl : ws.length ≤ 30) (hn : ns.length ≤ 12) (hll : l.length ≤ 20)
    (hsw : Sl w w.heap.size Aw (ws.map (Value.int .i64))) (hsn : Sl w w.heap.size An (ns.map (Value.int .i64))) (hsl : Sl w w.heap.size Al (l.flatMap decQ)) :
    Calls Try.prog 10 #[.slice Aw ws.length cw, .slice An ns.length cn, .slice Al l.length cl] w fun e w' => e = .returned (.bool true) ∧ Below w.heap.size w w' := by
  have i1 : (ws.length : Int) ≤ 30 := by omega
  have i2 : (ns.length : Int) ≤ 12 := by omega
  have i3 : (l.length : Int) ≤ 20 := by omega
  have HN := Lib.hid hsn
  have HL := Lib.hid hsl
  have HSW := Lib.hid hsw
  clear hsw hsn hsl
  go_enter Try.func10, Try.ntmps10
  go_wp2_with fail
  refine (laid_any ws Aw cw _ (by omega) HSW.out).mono ?_
  rintro e w2 ⟨rfl, σ, ρ, h2, hl1, hl2, hl3⟩
  obtain ⟨v, hv⟩ := h2.2.1.fixed
  have hA : Ars w.heap.size w2.heap.size v w w2 σ ρ := ⟨h2.1, hv, h2.2.2.1, fun b hb => (hv.block b hb).1, by have := hv.2.1; omega, Nat.le_refl _, h2.2.2.2⟩
  have hA := Lib.hid hA
  have ho : σ.ops ≤ 30 := by omega
  clear h2 hv hl1 hl2 hl3
  generalize w2.heap.size = br at *
  go_wp2_with fail
  refine wp_loop (PlJ l Al cl ns An cn br v w) (fun a' _ => l.length - (intOf (a'.tmps.getD 9 undef)).toNat) ?_ ?_
  · exact ⟨rfl, rfl, rfl, rfl, rfl, rfl, 0, σ, ρ, rfl, Nat.zero_le _, by omega, hA.out⟩
  · clear hA ho
    rintro a' W ⟨hsz, hdf, s1, s2, s7, s8, i, σ, ρ, s9, hi, ho, hA⟩
    obtain ⟨u, rfl, hu⟩ := frame156 hsz hdf
    rw [hu] at s1 s2 s7 s8 s9
    simp only [s1, s2, s7, s8, s9]
    clear hsz hdf s1 s2 s7 s8 s9 hu
    have hA := Lib.hid hA
    by_cases hlt : i < l.length
    · obtain ⟨b, off, rfl, hbb, hcell⟩ := Sl_at (k := 4) (fun _ => rfl) (by omega) (HL.out.below hA.out.2.2.2.2.2.2) (by omega)
      have h0 := hcell i hlt 0 (by omega)
      have h1 := hcell i hlt 1 (by omega)
      have h2 := hcell i hlt 2 (by omega)
      have h3 := hcell i hlt 3 (by omega)
      simp only [decQ, List.getElem?_cons_zero, List.getElem?_cons_succ, Nat.add_zero, ← Nat.add_assoc] at h0 h1 h2 h3
      clear hcell
      generalize l[i] = q at *
      obtain ⟨qa, qb, pos, step⟩ := q
      simp only at h0 h1 h2 h3
      by_cases p1 : pos < -100
      · go_wp2_with fail
        go_quiet (fail)
        go_wp2_with fail
        exact ⟨⟨rfl, rfl, rfl, rfl, rfl, rfl, i + 1, σ, ρ, rfl, hlt, by omega, hA.out.drewN _⟩, by simp [intOf]; omega⟩
      by_cases p2 : 100 < pos
      · go_wp2_with fail
        go_quiet (fail)
        go_wp2_with fail
        exact ⟨⟨rfl, rfl, rfl, rfl, rfl, rfl, i + 1, σ, ρ, rfl, hlt, by omega, hA.out.drewN _⟩, by simp [intOf]; omega⟩
      by_cases p3 : step < -100
      · go_wp2_with fail
        go_quiet (fail)
        go_wp2_with fail
        exact ⟨⟨rfl, rfl, rfl, rfl, rfl, rfl, i + 1, σ, ρ, rfl, hlt, by omega, hA.out.drewN _⟩, by simp [intOf]; omega⟩
      by_cases p4 : 100 < step
      · go_wp2_with fail
        go_quiet (fail)
        go_wp2_with fail
        exact ⟨⟨rfl, rfl, rfl, rfl, rfl, rfl, i + 1, σ, ρ, rfl, hlt, by omega, hA.out.drewN _⟩, by simp [intOf]; omega⟩
      go_wp2_with fail
      go_quiet (fail)
      have hA := Lib.hid (hA.out.drewN nq)
      have h0 := (show (W.drewN nq).cell? _ = _ from h0)
      have h1 := (show (W.drewN nq).cell? _ = _ from h1)
      generalize W.drewN nq = W1 at *
      clear h2 h3
      have hbr := hA.out.2.2.2.2.2.1
      have hbB := hA.out.2.2.2.2.1
      go_wp2_with fail
      refine (news_at _ _ _ pos step An cn ns _ hA.out.1 (by omega) (by omega) ((HN.out.below hA.out.2.2.2.2.2.2).more (by omega))).mono ?_
      rintro e w3 ⟨rfl, hs3, hb3⟩
      have h0 := keep1 hb3 h0
      have h1 := keep1 hb3 h1
      have hz3 : W1.heap.size + 1 + 1 + 1 + 1 < w3.heap.size := hs3.1.lt
      have hB3 : Below w.heap.size w w3 := hA.out.2.2.2.2.2.2.trans (hb3.mono (by omega))
      have hs3 := Lib.hid hs3
      go_wp2_with fail
      refine (rnew30 _ pos step An cn ns _ (by omega) ((HN.out.below hB3).more (by omega))).mono ?_
      rintro e w4 ⟨rfl, hr4, hb4⟩
      have h0 := keep1 hb4 h0
      have h1 := keep1 hb4 h1
      have hAn : ns = [] ∨ ∀ b off, An = some ⟨b, off, none⟩ → b < w.heap.size := by
        rcases HN.out with h | ⟨b2, o2, h, hlt2, _⟩
        · left; simpa using h
        · right
          intro b off e
          rw [h] at e
          injection e with e
          injection e with e _ _
          omega
      have hK : Wks W1.heap.size w3.heap.size (w3.heap.size + 1) br v pos step An cn ns w w4 σ ρ ⟨0, false, 0, 0, 0⟩ ⟨0, false, [], 0⟩ := by
        have hv := hA.out.2.1
        have hvb := hv.block
        refine ⟨hs3.out.same hb4, ⟨hr4, ?_, by omega, by omega, fun b hb => by have := (hvb b hb).1; omega, hAn.imp id (fun h b off e => by have := h b off e; omega)⟩, hA.out.2.2.1, ⟨rfl, rfl, rfl, rfl, rfl⟩, by omega, hA.out.2.2.2.1, by omega, by omega, hB3.trans (hb4.mono (by omega))⟩
        refine hv.upd (Upd.of_below (S := []) ((hb3.trans (hb4.mono (by omega))))) hv.2.1 (by simp) (fun b hb => ⟨(hvb b hb).1, by simp⟩)
      have hK := Lib.hid hK
      clear hs3 hr4 hb3 hb4 hB3
      generalize w3.heap.size = gy at *
      generalize W1.heap.size = n at *
      have hK1 := Lib.hid (Wks.drew hK.out)
      have HSim := Lib.hid (sim_take (ns := ns) (sim_first (s := ⟨0, false, 0, 0, 0⟩) (κ := ⟨0, false, [], 0⟩) rfl qb) qa)
      have HRun := Lib.hid (run_first (ns := ns) (nd := qb) ⟨0, false, 0, 0, 0⟩ qa)
      have HMy := Lib.hid (fun W K => begin_at n (w.heap.size + 1) w.heap.size ns pos step σ ⟨0, false, 0, 0, 0⟩ W K qa qb _ _ rfl rfl)
      have HHis := Lib.hid (fun W K => rbegin30 gy (gy + 1) (w.heap.size + 1 + 1) pos step An cn ns ⟨0, false, [], 0⟩ W K qa qb)
      rw [← HSim.out.2.1] at HHis
      generalize (Wk.first ⟨0, false, 0, 0, 0⟩ qb).take ns qa = s5 at *
      generalize (Rk.first ⟨0, false, [], 0⟩ qb).take ns qa = κ5 at *
      have e1 : ((!s5.way) != (!s5.way)) = false := by simp
      have hgy : n + 1 + 1 + 1 + 1 < gy := hK.out.2.2.2.2.1
      clear hK
      go_wp2_with fail
      go_region_held3 (fun V => V.cell? ⟨b, off + i * 4, none⟩ = some (.int .i64 qa) ∧ V.cell? ⟨b, off + i * 4 + 1, none⟩ = some (.int .i64 qb))
        (first | exact ⟨h0, h1⟩ | exact k6 | exact k5)
        (first
          | (go_at_call 55; refine (over_at _ _ _ _ _ _ _ _ _ hK1.out.1 true rfl).mono ?_; rintro e wx ⟨rfl, hwx⟩; obtain rfl := hwx.symm)
          | (go_at_call 56; refine (step_off _ _ _ _ _ _ hK1.out.1.1 rfl).mono ?_; rintro e wx ⟨rfl, hwx⟩; obtain rfl := hwx.symm)
          | (go_at_call 57; refine (HMy.out _ hK1.out.1).mono ?_; rintro e w5 ⟨rfl, hs5, hm5⟩; have k5 := And.intro (keepM hm5 (show w4.drew.cell? _ = _ from h0) (by simp; omega)) (keepM hm5 (show w4.drew.cell? _ = _ from h1) (by simp; omega)); have hY5 := Wks.mine hK1.out hs5 (hm5.sub (by simp)) hAn)
          | (go_at_call 58; refine (HHis.out _ hY5.1.1).mono ?_; rintro e w6 ⟨rfl, hr6, hu6⟩; have k6 := And.intro (keepU hu6 k5.1 (by show b < gy + 1; omega) (by simp; omega)) (keepU hu6 k5.2 (by show b < gy + 1; omega) (by simp; omega))))
      have hz5 : gy + 1 ≤ w5.heap.size := hY5.1.1.2.1
      have hX6 := Wks.his hs5 hgy (Nat.lt_succ_self _) hz5 hY5.2 (by omega) (hu6.sub (Nat.le_refl _) (by simp))
      have hK6 := Lib.hid (show Wks n gy (gy + 1) br v pos step An cn ns w w6 σ ρ s5 κ5 from ⟨hX6.1, hY5.1.turn hr6 hu6, hK1.out.2.2.1, HSim.out, hgy, hK1.out.2.2.2.2.2.1, hK1.out.2.2.2.2.2.2.1, hK1.out.2.2.2.2.2.2.2.1, hX6.2⟩)
      have hrw := fun e => (HRun.out.1 e).2
      have hrp := HRun.out.2.1
      have hrw := Lib.hid (fun e => And.intro (hrw e).1 (hrw e).2.1)
      clear hX6 hY5 hs5 hm5 hr6 hu6 hK1 k5 k6 h0 h1
      go_wp2_with fail
      refine wp_loop (Pl2 l (some ⟨b, off, none⟩) cl i ns An cn br n gy (gy + 1) v pos step w) (fun a' _ => 14 - (intOf (a'.tmps.getD 14 undef)).toNat) ?_ ?_
      · exact ⟨rfl, rfl, rfl, rfl, rfl, rfl, rfl, rfl, rfl, 0, σ, ρ, s5, κ5, rfl, by omega, by omega, hK6.out, hrw.out, hrp⟩
      · clear hK6 hrw hrp hA HRun HSim HMy HHis e1
        rintro a' W ⟨hsz, hdf, s1, s2, s7, s8, s9, s12, s13, k, σ, ρ, s, κ, s14, hk, ho, hK, hw, hp⟩
        obtain ⟨u, rfl, hu⟩ := frame156 hsz hdf
        rw [hu] at s1 s2 s7 s8 s9 s12 s13 s14
        simp only [s1, s2, s7, s8, s9, s12, s13, s14]
        clear hsz hdf s1 s2 s7 s8 s9 s12 s13 s14 hu
        have hK := Lib.hid hK
        by_cases hk14 : k < 14
        · obtain ⟨hSn, hAl⟩ := sim_next (ns := ns) (pos := pos) (step := step) hK.out.2.2.2.1 hK.out.2.2.1
          have hSim := hK.out.2.2.2.1
          have hoR : ρ.ops < 1000000 := by rw [hK.out.2.2.1.2.2.2.2.1]; omega
          have hlR : κ.way = true → 1 ≤ κ.lastw ∧ κ.lastw ≤ 4096 := fun e => by
            have := hw (hSim.2.1.trans e)
            rw [← hSim.2.2.2.1]
            omega
          have HMy := Lib.hid (fun W (K : Sc W n (w.heap.size + 1) w.heap.size ns pos step σ s) => step_sc n (w.heap.size + 1) w.heap.size ns pos step σ s W K (by omega) (by omega) (by omega) (by omega) (by omega) hp (fun e => ⟨(hw e).1, by have := (hw e).2; omega⟩))
          have HHis := Lib.hid (fun W (K : Rs W gy (gy + 1) (w.heap.size + 1 + 1) (w.heap.size + 1 + 1 + 1) v pos step An cn ns ρ κ) => rstep30 gy (gy + 1) (w.heap.size + 1 + 1) (w.heap.size + 1 + 1 + 1) v pos step An cn ns ρ κ W K hoR (by omega) (by omega) (by omega) (by omega) hlR)
          rw [← hSn.2.1, ← hSim.2.1] at HHis
          have hop2 := stepA_ops pos step σ s
          have hw2 : (s.next ns pos step σ).way = true → 1 ≤ (s.next ns pos step σ).last ∧ (s.next ns pos step σ).last ≤ ns.length := next_way pos step σ s
          have hp2 : (s.next ns pos step σ).passed ≤ ns.length := by
            unfold Wk.next
            split
            · exact Wk.take_le hp
            · exact hp
          have hK1 := Lib.hid (Wks.drew hK.out)
          have hgy : n + 1 + 1 + 1 + 1 < gy := hK.out.2.2.2.2.1
          have HSn := Lib.hid hSn
          have HAl := Lib.hid hAl
          have HW2 := Lib.hid hw2
          clear hSn hAl hSim hw2 hw hoR hlR
          generalize s.next ns pos step σ = s2 at *
          generalize κ.next ns pos step ρ = κ2 at *
          generalize stepA pos step σ s = σ2 at *
          generalize stepR pos step ρ κ = ρ2 at *
          generalize s.way = b0 at *
          have e1 : ((b0 && !s2.way) != (b0 && !s2.way)) = false := by simp
          have e2 : ((!s2.way) == s2.way) = false := by cases s2.way <;> rfl
          have e3 := ibne_no (rfl : s2.found = s2.found)
          have e4 := ibne_no (rfl : s2.last = s2.last)
          have e5 := nbne_no (rfl : σ2.ops = σ2.ops)
          clear hK
          go_wp2_with fail
          refine wp_region_held_drew (S := fun _ => True) (by kernel_rfl) trivial (fun hHeld => ?_)
          refine take_to 0 (some 116) (v := ?_) rfl rfl (by kernel_rfl) (by kernel_rfl) (by kernel_rfl) (fun _ _ _ h => h) (Or.inl ⟨by rfl, ?_⟩) (by first | trivial | assumption) ?_
          rotate_left
          focus (intro w hSw; (try dsimp only at hSw); go_simp; (try with_reducible rfl))
          simp only [Act.put, List.setIfInBounds_toArray, List.set_cons_zero, List.set_cons_succ]
          refine take_to 2 (some 118) (v := ?_) rfl rfl (by kernel_rfl) (by kernel_rfl) (by kernel_rfl) (fun _ _ _ h => h) (Or.inl ⟨by rfl, ?_⟩) (by first | trivial | assumption) ?_
          rotate_left
          focus (intro w hSw; (try dsimp only at hSw); go_simp; (try with_reducible rfl))
          simp only [Act.put, List.setIfInBounds_toArray, List.set_cons_zero, List.set_cons_succ]
          refine wpAnyH_ready (rs := [1]) (by kernel_rfl) (by simp) ?_
          refine AllReadyH.cons rfl (fun K hK => ?_) AllReadyH.nil
          go_simp
          refine (HMy.out _ hK1.out.1).mono ?_
          rintro e w5 ⟨rfl, hs5, hm5⟩
          have hY5 := Wks.mine hK1.out hs5 hm5 hAn
          go_simp
          refine hK.out _ _ trivial (fun hHeld => ?_)
          refine wpAnyH_ready (rs := [3]) (by kernel_rfl) (by simp) ?_
          refine AllReadyH.cons rfl (fun K hK => ?_) AllReadyH.nil
          go_simp
          refine (HHis.out _ hY5.1).mono ?_
          rintro e w6 ⟨rfl, hr6, hu6⟩
          have hX6 := Wks.his hs5 hgy (Nat.lt_succ_self _) hY5.1.1.2.1 hY5.2 (by omega) hu6
          obtain ⟨_, _, _, _, _, _, _, _, c5, _, c7, _, _⟩ := hr6.1.slot
          have c2 := blk_cell hr6.2.1.2.2.2.2.2.1 2 (by simp [rfCells])
          simp only [rfCells, List.getElem_toArray, List.getElem_cons_zero, List.getElem_cons_succ] at c2
          rw [← HSn.out.2.1] at c5
          rw [← HSn.out.2.2.2.2] at c7
          rw [HAl.out.2.2.2.2.1] at c2
          have HL := Lib.hid (rlastw _ _ _ _ _ _ _ _ _ w6 hr6.1 (by have := hr6.1.2.2.1; omega))
          rw [← HSn.out.2.2.2.1] at HL
          go_simp
          refine hK.out _ _ trivial (fun hHeld => ?_)
          refine held_weaken (S' := fun V => V.cell? ⟨gy, 5, none⟩ = some (.bool s2.way) ∧ V.cell? ⟨gy, 7, none⟩ = some (.int .i64 s2.found) ∧ V.cell? ⟨w.heap.size + 1 + 1, 2, none⟩ = some (.int .i64 (σ2.ops : Int))) (fun _ _ => trivial) _ _ _ _ ?_
          clear hHeld
          have hHeld := And.intro c5 (And.intro c7 c2)
          refine take_to 4 (some 120) (v := ?_) rfl rfl (by kernel_rfl) (by kernel_rfl) (by kernel_rfl) (fun _ _ _ h => h) (Or.inl ⟨by rfl, ?_⟩) (by first | trivial | assumption) ?_
          rotate_left
          focus (intro w hSw; (try dsimp only at hSw); go_simp; (try with_reducible rfl))
          simp only [Act.put, List.setIfInBounds_toArray, List.set_cons_zero, List.set_cons_succ]
          refine take_to 5 (some 121) (v := ?_) rfl rfl (by kernel_rfl) (by kernel_rfl) (by kernel_rfl) (fun _ _ _ h => h) (Or.inl ⟨by rfl, ?_⟩) (by first | trivial | assumption) ?_
          rotate_left
          focus (intro w hSw; (try dsimp only at hSw); go_simp; (try with_reducible rfl))
          simp only [Act.put, List.setIfInBounds_toArray, List.set_cons_zero, List.set_cons_succ]
          refine take_to 6 (some 122) (v := ?_) rfl rfl (by kernel_rfl) (by kernel_rfl) (by kernel_rfl) (fun _ _ _ h => h) (Or.inl ⟨by rfl, ?_⟩) (by first | trivial | assumption) ?_
          rotate_left
          focus (intro w hSw; (try dsimp only at hSw); go_simp; (try with_reducible rfl))
          simp only [Act.put, List.setIfInBounds_toArray, List.set_cons_zero, List.set_cons_succ]
          refine take_to 8 (some 124) (v := ?_) rfl rfl (by kernel_rfl) (by kernel_rfl) (by kernel_rfl) (fun _ _ _ h => h) (Or.inl ⟨by rfl, ?_⟩) (by first | trivial | assumption) ?_
          rotate_left
          focus (intro w hSw; (try dsimp only at hSw); go_simp; (try with_reducible rfl))
          simp only [Act.put, List.setIfInBounds_toArray, List.set_cons_zero, List.set_cons_succ]
          refine take_to 9 (some 125) (v := ?_) rfl rfl (by kernel_rfl) (by kernel_rfl) (by kernel_rfl) (fun _ _ _ h => h) (Or.inl ⟨by rfl, ?_⟩) (by first | trivial | assumption) ?_
          rotate_left
          focus (intro w hSw; (try dsimp only at hSw); go_simp; (try with_reducible rfl))
          simp only [Act.put, List.setIfInBounds_toArray, List.set_cons_zero, List.set_cons_succ]
          refine take_to 10 (some 126) (v := ?_) rfl rfl (by kernel_rfl) (by kernel_rfl) (by kernel_rfl) (fun _ _ _ h => h) (Or.inl ⟨by rfl, ?_⟩) (by first | trivial | assumption) ?_
          rotate_left
          focus (intro w hSw; (try dsimp only at hSw); go_simp; (try with_reducible rfl))
          simp only [Act.put, List.setIfInBounds_toArray, List.set_cons_zero, List.set_cons_succ]
          refine take_to 11 (some 127) (v := ?_) rfl rfl (by kernel_rfl) (by kernel_rfl) (by kernel_rfl) (fun _ _ _ h => h) (Or.inl ⟨by rfl, ?_⟩) (by first | trivial | assumption) ?_
          rotate_left
          focus (intro w hSw; (try dsimp only at hSw); go_simp; (try with_reducible rfl))
          simp only [Act.put, List.setIfInBounds_toArray, List.set_cons_zero, List.set_cons_succ]
          refine wpAnyH_ready (rs := [7]) (by kernel_rfl) (by simp) ?_
          refine AllReadyH.cons rfl (fun K hK => ?_) AllReadyH.nil
          go_simp
          refine (over_at _ _ _ _ _ _ _ _ _ hX6.1 _ rfl).mono ?_
          rintro e wx ⟨rfl, hwx⟩
          obtain rfl := hwx.symm
          go_simp
          refine hK.out _ _ hHeld (fun hHeld => ?_)
          refine take_to 12 (some 128) (v := ?_) rfl rfl (by kernel_rfl) (by kernel_rfl) (by kernel_rfl) (fun _ _ _ h => h) (Or.inl ⟨by rfl, ?_⟩) (by first | trivial | assumption) ?_
          rotate_left
          focus (intro w hSw; (try dsimp only at hSw); go_simp; (try with_reducible rfl))
          simp only [Act.put, List.setIfInBounds_toArray, List.set_cons_zero, List.set_cons_succ]
          refine take_to 13 (some 129) (v := ?_) rfl rfl (by kernel_rfl) (by kernel_rfl) (by kernel_rfl) (fun _ _ _ h => h) (Or.inl ⟨by rfl, ?_⟩) (by first | trivial | assumption) ?_
          rotate_left
          focus (intro w hSw; (try dsimp only at hSw); go_simp; (try with_reducible rfl))
          simp only [Act.put, List.setIfInBounds_toArray, List.set_cons_zero, List.set_cons_succ]
          refine take_to 14 (some 130) (v := ?_) rfl rfl (by kernel_rfl) (by kernel_rfl) (by kernel_rfl) (fun _ _ _ h => h) (Or.inl ⟨by rfl, ?_⟩) (by first | trivial | assumption) ?_
          rotate_left
          focus (intro w hSw; (try dsimp only at hSw); go_simp; (try with_reducible rfl))
          simp only [Act.put, List.setIfInBounds_toArray, List.set_cons_zero, List.set_cons_succ]
          refine take_to 15 (some 131) (v := ?_) rfl rfl (by kernel_rfl) (by kernel_rfl) (by kernel_rfl) (fun _ _ _ h => h) (Or.inl ⟨by rfl, ?_⟩) (by first | trivial | assumption) ?_
          rotate_left
          focus (intro w hSw; (try dsimp only at hSw); go_simp; (try with_reducible rfl))
          simp only [Act.put, List.setIfInBounds_toArray, List.set_cons_zero, List.set_cons_succ]
          refine take_to 17 (some 133) (v := ?_) rfl rfl (by kernel_rfl) (by kernel_rfl) (by kernel_rfl) (fun _ _ _ h => h) (Or.inl ⟨by rfl, ?_⟩) (by first | trivial | assumption) ?_
          rotate_left
          focus (intro w hSw; (try dsimp only at hSw); go_simp; (try with_reducible rfl))
          simp only [Act.put, List.setIfInBounds_toArray, List.set_cons_zero, List.set_cons_succ]
          refine take_to 18 (some 134) (v := ?_) rfl rfl (by kernel_rfl) (by kernel_rfl) (by kernel_rfl) (fun _ _ _ h => h) (Or.inl ⟨by rfl, ?_⟩) (by first | trivial | assumption) ?_
          rotate_left
          focus (intro w hSw; (try dsimp only at hSw); go_simp; (try with_reducible rfl))
          simp only [Act.put, List.setIfInBounds_toArray, List.set_cons_zero, List.set_cons_succ]
          refine take_to 19 (some 135) (v := ?_) rfl rfl (by kernel_rfl) (by kernel_rfl) (by kernel_rfl) (fun _ _ _ h => h) (Or.inl ⟨by rfl, ?_⟩) (by first | trivial | assumption) ?_
          rotate_left
          focus (intro w hSw; (try dsimp only at hSw); go_simp; (try with_reducible rfl))
          simp only [Act.put, List.setIfInBounds_toArray, List.set_cons_zero, List.set_cons_succ]
          refine take_to 20 (some 136) (v := ?_) rfl rfl (by kernel_rfl) (by kernel_rfl) (by kernel_rfl) (fun _ _ _ h => h) (Or.inl ⟨by rfl, ?_⟩) (by first | trivial | assumption) ?_
          rotate_left
          focus (intro w hSw; (try dsimp only at hSw); go_simp; (try with_reducible rfl))
          simp only [Act.put, List.setIfInBounds_toArray, List.set_cons_zero, List.set_cons_succ]
          refine wpAnyH_ready (rs := [16]) (by kernel_rfl) (by simp) ?_
          refine AllReadyH.cons rfl (fun K hK => ?_) AllReadyH.nil
          go_simp
          refine (found_at _ _ _ _ _ _ _ _ _ hX6.1 _ rfl).mono ?_
          rintro e wx ⟨rfl, hwx⟩
          obtain rfl := hwx.symm
          go_simp
          refine hK.out _ _ hHeld (fun hHeld => ?_)
          refine take_to 21 (some 137) (v := ?_) rfl rfl (by kernel_rfl) (by kernel_rfl) (by kernel_rfl) (fun _ _ _ h => h) (Or.inl ⟨by rfl, ?_⟩) (by first | trivial | assumption) ?_
          rotate_left
          focus (intro w hSw; (try dsimp only at hSw); go_simp; (try with_reducible rfl))
          simp only [Act.put, List.setIfInBounds_toArray, List.set_cons_zero, List.set_cons_succ]
          refine take_to 22 (some 138) (v := ?_) rfl rfl (by kernel_rfl) (by kernel_rfl) (by kernel_rfl) (fun _ _ _ h => h) (Or.inl ⟨by rfl, ?_⟩) (by first | trivial | assumption) ?_
          rotate_left
          focus (intro w hSw; (try dsimp only at hSw); go_simp; (try with_reducible rfl))
          simp only [Act.put, List.setIfInBounds_toArray, List.set_cons_zero, List.set_cons_succ]
          refine take_to 23 (some 139) (v := ?_) rfl rfl (by kernel_rfl) (by kernel_rfl) (by kernel_rfl) (fun _ _ _ h => h) (Or.inl ⟨by rfl, ?_⟩) (by first | trivial | assumption) ?_
          rotate_left
          focus (intro w hSw; (try dsimp only at hSw); go_simp; (try with_reducible rfl))
          simp only [Act.put, List.setIfInBounds_toArray, List.set_cons_zero, List.set_cons_succ]
          refine take_to 24 (some 140) (v := ?_) rfl rfl (by kernel_rfl) (by kernel_rfl) (by kernel_rfl) (fun _ _ _ h => h) (Or.inl ⟨by rfl, ?_⟩) (by first | trivial | assumption) ?_
          rotate_left
          focus (intro w hSw; (try dsimp only at hSw); go_simp; (try with_reducible rfl))
          simp only [Act.put, List.setIfInBounds_toArray, List.set_cons_zero, List.set_cons_succ]
          refine take_to 26 (some 142) (v := ?_) rfl rfl (by kernel_rfl) (by kernel_rfl) (by kernel_rfl) (fun _ _ _ h => h) (Or.inl ⟨by rfl, ?_⟩) (by first | trivial | assumption) ?_
          rotate_left
          focus (intro w hSw; (try dsimp only at hSw); go_simp; (try with_reducible rfl))
          simp only [Act.put, List.setIfInBounds_toArray, List.set_cons_zero, List.set_cons_succ]
          refine wpAnyH_ready (rs := [25]) (by kernel_rfl) (by simp) ?_
          refine AllReadyH.cons rfl (fun K hK => ?_) AllReadyH.nil
          go_simp
          refine (lastw_at _ _ _ _ _ _ _ _ _ hX6.1 _ rfl).mono ?_
          rintro e wx ⟨rfl, hwx⟩
          obtain rfl := hwx.symm
          go_simp
          refine hK.out _ _ hHeld (fun hHeld => ?_)
          refine wpAnyH_ready (rs := [27]) (by kernel_rfl) (by simp) ?_
          refine AllReadyH.cons rfl (fun K hK => ?_) AllReadyH.nil
          go_simp
          refine (HL.out).mono ?_
          rintro e w7 ⟨rfl, m7, rfl⟩
          go_simp
          refine hK.out _ _ hHeld (fun hHeld => ?_)
          refine take_to 28 (some 144) (v := ?_) rfl rfl (by kernel_rfl) (by kernel_rfl) (by kernel_rfl) (fun _ _ _ h => h) (Or.inl ⟨by rfl, ?_⟩) (by first | trivial | assumption) ?_
          rotate_left
          focus (intro w hSw; (try dsimp only at hSw); go_simp; (try with_reducible rfl))
          simp only [Act.put, List.setIfInBounds_toArray, List.set_cons_zero, List.set_cons_succ]
          refine take_to 29 (some 145) (v := ?_) rfl rfl (by kernel_rfl) (by kernel_rfl) (by kernel_rfl) (fun _ _ _ h => h) (Or.inl ⟨by rfl, ?_⟩) (by first | trivial | assumption) ?_
          rotate_left
          focus (intro w hSw; (try dsimp only at hSw); go_simp; (try with_reducible rfl))
          simp only [Act.put, List.setIfInBounds_toArray, List.set_cons_zero, List.set_cons_succ]
          refine take_to 30 (some 146) (v := ?_) rfl rfl (by kernel_rfl) (by kernel_rfl) (by kernel_rfl) (fun _ _ _ h => h) (Or.inl ⟨by rfl, ?_⟩) (by first | trivial | assumption) ?_
          rotate_left
          focus (intro w hSw; (try dsimp only at hSw); go_simp; (try with_reducible rfl))
          simp only [Act.put, List.setIfInBounds_toArray, List.set_cons_zero, List.set_cons_succ]
          refine take_to 31 (some 147) (v := ?_) rfl rfl (by kernel_rfl) (by kernel_rfl) (by kernel_rfl) (fun _ _ _ h => h) (Or.inl ⟨by rfl, ?_⟩) (by first | trivial | assumption) ?_
          rotate_left
          focus (intro w hSw; (try dsimp only at hSw); go_simp; (try with_reducible rfl))
          simp only [Act.put, List.setIfInBounds_toArray, List.set_cons_zero, List.set_cons_succ]
          refine take_to 33 (some 149) (v := ?_) rfl rfl (by kernel_rfl) (by kernel_rfl) (by kernel_rfl) (fun _ _ _ h => h) (Or.inl ⟨by rfl, ?_⟩) (by first | trivial | assumption) ?_
          rotate_left
          focus (intro w hSw; (try dsimp only at hSw); go_simp; (try with_reducible rfl))
          simp only [Act.put, List.setIfInBounds_toArray, List.set_cons_zero, List.set_cons_succ]
          refine take_to 34 (some 150) (v := ?_) rfl rfl (by kernel_rfl) (by kernel_rfl) (by kernel_rfl) (fun _ _ _ h => h) (Or.inl ⟨by rfl, ?_⟩) (by first | trivial | assumption) ?_
          rotate_left
          focus (intro w hSw; (try dsimp only at hSw); go_simp; (try with_reducible rfl))
          simp only [Act.put, List.setIfInBounds_toArray, List.set_cons_zero, List.set_cons_succ]
          refine take_to 35 (some 151) (v := ?_) rfl rfl (by kernel_rfl) (by kernel_rfl) (by kernel_rfl) (fun _ _ _ h => h) (Or.inl ⟨by rfl, ?_⟩) (by first | trivial | assumption) ?_
          rotate_left
          focus (intro w hSw; (try dsimp only at hSw); go_simp; (try with_reducible rfl))
          simp only [Act.put, List.setIfInBounds_toArray, List.set_cons_zero, List.set_cons_succ]
          refine take_to 36 (some 152) (v := ?_) rfl rfl (by kernel_rfl) (by kernel_rfl) (by kernel_rfl) (fun _ _ _ h => h) (Or.inl ⟨by rfl, ?_⟩) (by first | trivial | assumption) ?_
          rotate_left
          focus (intro w hSw; (try dsimp only at hSw); go_simp; (try with_reducible rfl))
          simp only [Act.put, List.setIfInBounds_toArray, List.set_cons_zero, List.set_cons_succ]
          refine wpAnyH_ready (rs := [32]) (by kernel_rfl) (by simp) ?_
          refine AllReadyH.cons rfl (fun K hK => ?_) AllReadyH.nil
          go_simp
          refine (ops_any _ _ σ2 _ (hX6.1.2.1.drewN m7)).mono ?_
          rintro e wx ⟨rfl, hwx⟩
          obtain rfl := hwx.symm
          go_simp
          refine hK.out _ _ hHeld (fun hHeld => ?_)
          refine take_to 37 (some 153) (v := ?_) rfl rfl (by kernel_rfl) (by kernel_rfl) (by kernel_rfl) (fun _ _ _ h => h) (Or.inl ⟨by rfl, ?_⟩) (by first | trivial | assumption) ?_
          rotate_left
          focus (intro w hSw; (try dsimp only at hSw); go_simp; (try with_reducible rfl))
          simp only [Act.put, List.setIfInBounds_toArray, List.set_cons_zero, List.set_cons_succ]
          refine take_to 38 (some 154) (v := ?_) rfl rfl (by kernel_rfl) (by kernel_rfl) (by kernel_rfl) (fun _ _ _ h => h) (Or.inl ⟨by rfl, ?_⟩) (by first | trivial | assumption) ?_
          rotate_left
          focus (intro w hSw; (try dsimp only at hSw); go_simp; (try with_reducible rfl))
          simp only [Act.put, List.setIfInBounds_toArray, List.set_cons_zero, List.set_cons_succ]
          refine wpAnyH_done (by kernel_rfl) ?_ _
          have hK6 := Lib.hid (show Wks n gy (gy + 1) br v pos step An cn ns w w6 σ2 ρ2 s2 κ2 from ⟨hX6.1, hr6, HAl.out, HSn.out, hgy, hK1.out.2.2.2.2.2.1, hK1.out.2.2.2.2.2.2.1, hK1.out.2.2.2.2.2.2.2.1, hX6.2⟩)
          clear c5 c7 c2 hr6 hu6 hX6 hY5 hs5 hm5
          go_wp2_with fail
          exact ⟨⟨rfl, rfl, rfl, rfl, rfl, rfl, rfl, rfl, rfl, k + 1, σ2, ρ2, s2, κ2, rfl, hk14, by omega, hK6.out.drewN _, HW2.out, hp2⟩, by simp [intOf]; omega⟩
        · have hA := Lib.hid hK.out.ars
          go_wp2_with fail
          exact ⟨⟨rfl, rfl, rfl, rfl, rfl, rfl, i + 1, σ, ρ, rfl, hlt, by omega, hA.out⟩, by simp [intOf]; omega⟩
    · go_wp2_with fail
      refine (awake30 _).mono ?_
      rintro e w3 ⟨rfl, hb⟩
      go_wp2_with fail
      go_ret
      have hz := hA.out.2.2.2.2.2.1
      have hz2 := hA.out.2.2.2.2.1
      exact ⟨rfl, hA.out.2.2.2.2.2.2.trans (hb.mono (by omega))⟩
end Go.Proofs.Ytfdcojhgpfmloaa.Ara
