/- Layer 30's law ScanEnds. -/
import Derived.Test.YtfdcojhgpfmloaaScan6
import Derived.Lib.QuietBelow
import Derived.Deep.Cut
import Derived.Deep.CutBlock
namespace Go.Proofs.Ytfdcojhgpfmloaa.Ara
open Go.RowKit Go.Sort

theorem frame127 {a : Act} (h : a.tmps.size = 127) (hd : a.defers = []) : ∃ u : Nat → Value, a = { tmps := #[u 0, u 1, u 2, u 3, u 4, u 5, u 6, u 7, u 8, u 9, u 10, u 11, u 12, u 13, u 14, u 15, u 16, u 17, u 18, u 19, u 20, u 21, u 22, u 23, u 24, u 25, u 26, u 27, u 28, u 29, u 30, u 31, u 32, u 33, u 34, u 35, u 36, u 37, u 38, u 39, u 40, u 41, u 42, u 43, u 44, u 45, u 46, u 47, u 48, u 49, u 50, u 51, u 52, u 53, u 54, u 55, u 56, u 57, u 58, u 59, u 60, u 61, u 62, u 63, u 64, u 65, u 66, u 67, u 68, u 69, u 70, u 71, u 72, u 73, u 74, u 75, u 76, u 77, u 78, u 79, u 80, u 81, u 82, u 83, u 84, u 85, u 86, u 87, u 88, u 89, u 90, u 91, u 92, u 93, u 94, u 95, u 96, u 97, u 98, u 99, u 100, u 101, u 102, u 103, u 104, u 105, u 106, u 107, u 108, u 109, u 110, u 111, u 112, u 113, u 114, u 115, u 116, u 117, u 118, u 119, u 120, u 121, u 122, u 123, u 124, u 125, u 126], defers := [] } ∧ ∀ n, a.tmps.getD n undef = u n := by
  refine ⟨fun n => a.tmps.getD n undef, ?_, fun _ => rfl⟩
  have h1 := arr_lit a.tmps h
  cases a with
  | mk t d =>
    simp only at hd h1
    subst hd
    congr 1
theorem step_off (g h : Nat) (fv : Value) (ns : List Int) (s : Wk) (w : World) (H : WkAt w g h fv ns s) (hw : s.way = false) : Calls Try.prog 56 #[.pointer (some ⟨g, 0, none⟩)] w fun e w' => e = .returned (.bool false) ∧ w' = w := by
  have HO := Lib.hid (over_wk _ _ _ _ s w H)
  rw [hw] at HO
  clear H hw
  go_enter Try.func56, Try.ntmps56
  go_wp2_with fail
  refine (HO.out).mono ?_
  rintro e wx ⟨rfl, hwx⟩
  obtain rfl := hwx.symm
  go_wp2_with fail
  go_ret
  exact ⟨rfl, rfl⟩
theorem Sc.mod {S : List Nat} {W W' : World} {n ga ha : Nat} {ns : List Int} {pos step : Int} {σ : Ar} {s : Wk} (k : Sc W n ga ha ns pos step σ s) (hm : Mod S W W') (hS : ∀ x ∈ S, n + 1 + 1 + 1 + 1 < x) : Sc W' n ga ha ns pos step σ s :=
  ⟨k.1.mod hm (fun e => by have := hS _ e; omega) (fun e => by have := hS _ e; omega), k.2.1.mod hm (fun e => by have := hS _ e; have := k.2.2.2; omega) (fun e => by have := hS _ e; have := k.2.2.2; omega), k.2.2.1.mod hm (fun x hx => by have := hS _ hx; omega), k.2.2.2⟩
/-- How a walk stands that has passed m things. -/
def Run (ns : List Int) (nd : Int) (m : Nat) (s : Wk) : Prop :=
  (s.way = true → s.passed = m ∧ 1 ≤ s.last ∧ s.last ≤ ns.length ∧ s.found = 0) ∧ s.passed ≤ ns.length ∧ s.node = nd ∧ (s.found = 0 ∨ (1 ≤ s.found ∧ s.found ≤ ns.length ∧ ns.getD (s.found - 1).toNat 0 = nd))
theorem run_take {ns : List Int} {nd : Int} {s : Wk} (h1 : s.passed ≤ ns.length) (h2 : s.node = nd) (h3 : s.found = 0) (x : Int) : Run ns nd (s.passed + 1) (s.take ns x) := by
  unfold Wk.take
  by_cases c1 : x < 1 ∨ (ns.length : Int) < x ∨ s.passed = ns.length
  · rw [if_pos c1]
    exact ⟨fun e => by simp at e, h1, h2, .inl h3⟩
  · rw [if_neg c1]
    by_cases c2 : ns.getD (x - 1).toNat 0 = s.node
    · rw [if_pos c2]
      refine ⟨fun e => by simp at e, h1, h2, .inr ⟨?_, ?_, c2.trans h2⟩⟩
      · show 1 ≤ x; omega
      · show x ≤ ns.length; omega
    · rw [if_neg c2]
      refine ⟨fun _ => ⟨rfl, ?_, ?_, h3⟩, ?_, h2, .inl h3⟩
      · show 1 ≤ x; omega
      · show x ≤ ns.length; omega
      · show s.passed + 1 ≤ ns.length; omega
theorem run_first {ns : List Int} {nd : Int} (s : Wk) (x : Int) : Run ns nd 1 ((s.first nd).take ns x) := run_take (s := s.first nd) (Nat.zero_le _) rfl rfl x
theorem run_next {ns : List Int} {nd : Int} {m : Nat} {s : Wk} (h : Run ns nd m s) (hw : s.way = true) (pos step : Int) (σ : Ar) : Run ns nd (m + 1) (s.next ns pos step σ) := by
  unfold Wk.next
  rw [if_pos hw]
  obtain ⟨h1, h2, h3, _⟩ := h
  obtain ⟨e, _, _, h5⟩ := h1 hw
  have := run_take h2 h3 h5 (σ.get (pos + step * (s.last - 1)))
  rw [e] at this
  exact this
theorem stepA_ops (pos step : Int) (σ : Ar) (s : Wk) : (stepA pos step σ s).ops ≤ σ.ops + 1 := by
  unfold stepA Ar.op
  split
  · split
    · exact Nat.le_refl _
    · exact Nat.le_succ _
  · exact Nat.le_succ _
theorem jx0 (a b : Option Addr) (W : World) : (Instr.index 98 (.agg #[.pointer a, .pointer b]) (.int .i64 0)).run Try.prog W = .ok (.pointer a) W := by
  simp [Instr.index, run_underlying Try.underlying98, asIntOf, go_sem]
theorem jx1 (a b : Option Addr) (W : World) : (Instr.index 98 (.agg #[.pointer a, .pointer b]) (.int .i64 1)).run Try.prog W = .ok (.pointer b) W := by
  simp [Instr.index, run_underlying Try.underlying98, asIntOf, go_sem]

def boxN (n0 n1 : Int) : Obj := .cells #[.int .i64 n0, .int .i64 n1] 95 (0, 0)
/-- What the law keeps, all along. -/
def EnF (ns : List Int) (A : Option Addr) (cap n : Nat) (n0 n1 : Int) (w : World) (o : Nat) (σ : Ar) (s : Wk) (W : World) : Prop :=
  Sc W n (w.heap.size + 1 + 1) (w.heap.size + 1) ns 1 1 σ s ∧ W.heap[w.heap.size]? = some (boxN n0 n1) ∧ w.heap.size + 1 + 1 < n ∧ Below w.heap.size w W
theorem EnF.mod {S : List Nat} {ns : List Int} {A : Option Addr} {cap n : Nat} {n0 n1 : Int} {w : World} {o : Nat} {σ : Ar} {s : Wk} {W W' : World} (k : EnF ns A cap n n0 n1 w o σ s W) (hm : Mod S W W') (hS : ∀ x ∈ S, n + 1 + 1 + 1 + 1 < x) : EnF ns A cap n n0 n1 w o σ s W' := by
  obtain ⟨k1, k2, k3, k4⟩ := k
  exact ⟨k1.mod hm hS, hm.blk k2 (fun e => by have := hS _ e; omega), k3, k4.trans (hm.below (by have := lt_of_blk k2; omega) (fun x hx => by have := hS _ hx; omega))⟩
theorem EnF.same {ns : List Int} {A : Option Addr} {cap n : Nat} {n0 n1 : Int} {w : World} {o : Nat} {σ : Ar} {s : Wk} {W W' : World} (k : EnF ns A cap n n0 n1 w o σ s W) (hb : Below W.heap.size W W') : EnF ns A cap n n0 n1 w o σ s W' :=
  k.mod (S := []) (Mod.of_below hb) (by simp)
theorem EnF.walked {ns : List Int} {A : Option Addr} {cap n : Nat} {n0 n1 : Int} {w : World} {o : Nat} {σ σ' : Ar} {s s' : Wk} {W W' : World} (k : EnF ns A cap n n0 n1 w o σ s W) (hs : Sc W' n (w.heap.size + 1 + 1) (w.heap.size + 1) ns 1 1 σ' s') (hm : Mod [n + 1 + 1 + 1 + 1, w.heap.size + 1 + 1, w.heap.size + 1] W W') : EnF ns A cap n n0 n1 w o σ' s' W' := by
  obtain ⟨k1, k2, k3, k4⟩ := k
  exact ⟨hs, hm.blk k2 (by simp; omega), k3, k4.trans (hm.below (by have := lt_of_blk k2; omega) (by simp; omega))⟩
def EnJ (ns : List Int) (A : Option Addr) (cap n : Nat) (n0 n1 : Int) (w : World) (o : Nat) (a : Act) (W : World) : Prop :=
  a.tmps.size = 127 ∧ a.defers = [] ∧ a.tmps.getD 1 undef = .slice A ns.length cap ∧ a.tmps.getD 5 undef = .pointer (some ⟨w.heap.size, 0, none⟩) ∧ a.tmps.getD 7 undef = .pointer (some ⟨w.heap.size + 1 + 1, 0, none⟩) ∧ a.tmps.getD 9 undef = .pointer (some ⟨n + 1 + 1 + 1 + 1, 0, none⟩) ∧ a.tmps.getD 10 undef = .int .i64 o ∧
    ∃ (k : Nat) (σ : Ar) (s : Wk), a.tmps.getD 11 undef = .bool (!s.way) ∧ a.tmps.getD 12 undef = .int .i64 k ∧ k ≤ ns.length ∧ σ.ops ≤ o + k ∧ Run ns n1 (k + 1) s ∧ EnF ns A cap n n0 n1 w o σ s W
def En2 (ns : List Int) (A : Option Addr) (cap n gz : Nat) (n0 n1 : Int) (w : World) (o : Nat) (σ : Ar) (s : Wk) (a : Act) (W : World) : Prop :=
  a.tmps.size = 127 ∧ a.defers = [] ∧ a.tmps.getD 1 undef = .slice A ns.length cap ∧ a.tmps.getD 5 undef = .pointer (some ⟨w.heap.size, 0, none⟩) ∧ a.tmps.getD 7 undef = .pointer (some ⟨w.heap.size + 1 + 1, 0, none⟩) ∧ a.tmps.getD 9 undef = .pointer (some ⟨n + 1 + 1 + 1 + 1, 0, none⟩) ∧ a.tmps.getD 10 undef = .int .i64 o ∧ a.tmps.getD 11 undef = .bool true ∧ a.tmps.getD 55 undef = .agg #[.pointer none, .pointer (some ⟨gz, 0, none⟩)] ∧
    ∃ (k : Nat) (nd : Int), a.tmps.getD 56 undef = .int .i64 k ∧ k ≤ 2 ∧ EnF ns A cap n n0 n1 w o σ s W ∧ WkAt W gz gz .nilFunc [] ⟨nd, false, 0, 0, 0⟩
/-- How it stands behind the walk's loop. -/
def EnR (ns : List Int) (A : Option Addr) (cap n : Nat) (n0 n1 : Int) (w : World) (o : Nat) (a : Act) (W : World) : Prop :=
  a.tmps.size = 127 ∧ a.defers = [] ∧ a.tmps.getD 1 undef = .slice A ns.length cap ∧ a.tmps.getD 5 undef = .pointer (some ⟨w.heap.size, 0, none⟩) ∧ a.tmps.getD 7 undef = .pointer (some ⟨w.heap.size + 1 + 1, 0, none⟩) ∧ a.tmps.getD 9 undef = .pointer (some ⟨n + 1 + 1 + 1 + 1, 0, none⟩) ∧ a.tmps.getD 10 undef = .int .i64 o ∧ a.tmps.getD 11 undef = .bool true ∧
    ∃ (σ : Ar) (s : Wk), (σ.ops : Int) - (o : Int) ≤ (ns.length : Int) ∧ -100 ≤ (σ.ops : Int) - (o : Int) ∧ (s.found = 0 ∨ (1 ≤ s.found ∧ s.found ≤ ns.length ∧ ns.getD (s.found - 1).toNat 0 = n1)) ∧ EnF ns A cap n n0 n1 w o σ s W
theorem awk (p : Bool) : (!(!p)) = p := by cases p <;> rfl
set_option maxHeartbeats 8000000 in
set_option maxRecDepth 100000 in
theorem ends_walk (l : List Int) (A1 : Option Addr) (c1 : Nat) (ns : List Int) (A : Option Addr) (cap : Nat) (n0 n1 : Int) (w : World) (hl : l.length ≤ 30) (hn : ns.length ≤ 12) (hs1 : Sl w w.heap.size A1 (l.map (Value.int .i64))) (hs2 : Sl w w.heap.size A (ns.map (Value.int .i64))) :
    Calls Try.prog 12 #[.slice A1 l.length c1, .slice A ns.length cap, .agg #[.int .i64 n0, .int .i64 n1]] w fun e w' => e = .returned (.bool true) ∧ Below w.heap.size w w' := by
  have i1 : (l.length : Int) ≤ 30 := by omega
  have i2 : (ns.length : Int) ≤ 12 := by omega
  have hs1 := hs1.push (boxN n0 n1)
  simp only [boxN] at hs1
  have HS1 := Lib.hid hs1
  have HS2 := Lib.hid hs2
  clear hs1 hs2
  go_enter Try.func12, Try.ntmps12
  go_wp2_with fail
  refine (laid_any l A1 c1 _ (by omega) HS1.out).mono ?_
  rintro e w2 ⟨rfl, σ, ρ, h2, hl1, hl2, hl3⟩
  have e0 : (w.alloc (.cells #[.int .i64 n0, .int .i64 n1] 95)).heap.size = w.heap.size + 1 := by simp
  rw [e0] at h2 ⊢
  have hA := h2.1
  have hB0 := (below_new w (.cells #[.int .i64 n0, .int .i64 n1] 95)).trans (h2.2.2.2.mono (by omega))
  have hbx : w2.heap[w.heap.size]? = some (boxN n0 n1) := (Upd.of_below (S := []) h2.2.2.2).blk (blk_new w _) (by omega) (by simp)
  have hzz : w.heap.size + 1 + 1 + 1 ≤ w2.heap.size := by have := lt_of_blk h2.2.1.2.2.2.2.2.choose_spec.1; omega
  have hoN : σ.ops ≤ 30 := by omega
  clear h2 e0 hl1 hl2 hl3
  go_wp2_with fail
  refine (news_at _ _ _ 1 1 A cap ns _ hA (by omega) (by omega) ((HS2.out.below hB0).more hB0.size)).mono ?_
  rintro e w3 ⟨rfl, hs3, hb3⟩
  have hE : EnF ns A cap w2.heap.size n0 n1 w σ.ops σ ⟨0, false, 0, 0, 0⟩ w3 := ⟨hs3, (Mod.of_below (S := []) hb3).blk hbx (by simp), by omega, hB0.trans (hb3.mono (by omega))⟩
  have HE := Lib.hid hE
  clear hA hB0 hs3 hb3 hbx hE
  have hn2 : w.heap.size + 1 + 1 < w2.heap.size := by omega
  clear hzz
  generalize w2.heap.size = n at *
  go_wp2_with fail
  have b0 := blk_cell HE.out.2.1 0 (by simp)
  have b1 := blk_cell HE.out.2.1 1 (by simp)
  simp only [List.getElem_toArray, List.getElem_cons_zero, List.getElem_cons_succ] at b0 b1
  refine (aops_at _ _ _ _ _ _ _ _ _ HE.out.1 _ rfl).mono ?_
  rintro e wx ⟨rfl, hwx⟩
  obtain rfl := hwx.symm
  go_wp2_with fail
  refine (begin_at _ _ _ _ _ _ _ _ _ HE.out.1 n0 n1 _ _ rfl rfl).mono ?_
  rintro e w4 ⟨rfl, hs4, hm4⟩
  have HE4 := Lib.hid (HE.out.walked hs4 (hm4.sub (by simp)))
  have HRn := Lib.hid (run_first (ns := ns) (nd := n1) ⟨0, false, 0, 0, 0⟩ n0)
  clear hs4 hm4 HE b0 b1
  generalize (Wk.first ⟨0, false, 0, 0, 0⟩ n1).take ns n0 = s at *
  have ho0 : σ.ops ≤ σ.ops + 0 := by omega
  generalize hoo : σ.ops = o at ho0 hoN ⊢
  go_upto_block 0 with fail
  refine wp_cut (EnR ns A cap n n0 n1 w o) ?_ ?_
  · clear HE4 HRn hoo ho0
    rintro a' W ⟨hsz, hdf, s1, s5, s7, s9, s10, s11, σ, s, hob, hobb, hf, hE⟩
    obtain ⟨u, rfl, hu⟩ := frame127 hsz hdf
    rw [hu] at s1 s5 s7 s9 s10 s11
    simp only [s1, s5, s7, s9, s10, s11]
    clear hsz hdf s1 s5 s7 s9 s10 s11 hu
    have HE := Lib.hid hE
    have HF := Lib.hid hf
    have HOB := Lib.hid hob
    clear hE hf hob
    go_wp2_with fail
    have hz : n + 1 + 1 + 1 + 1 < W.heap.size := HE.out.1.1.lt
    have HZ := Lib.hid (show WkAt (W.alloc (.cells #[.nilFunc, .slice none 0 0, .int .i64 0, .bool false, .int .i64 0, .int .i64 0, .int .i64 0] 97)) W.heap.size W.heap.size .nilFunc [] ⟨0, false, 0, 0, 0⟩ from ⟨by simp, none, blk_new _ _, .inl rfl⟩)
    have HE2 := Lib.hid (HE.out.same (below_new W (.cells #[.nilFunc, .slice none 0 0, .int .i64 0, .bool false, .int .i64 0, .int .i64 0, .int .i64 0] 97)))
    have q4 := fun a b W => jx0 a b W
    have q5 := fun a b W => jx1 a b W
    generalize W.alloc (.cells #[.nilFunc, .slice none 0 0, .int .i64 0, .bool false, .int .i64 0, .int .i64 0, .int .i64 0] 97) = W2 at *
    generalize W.heap.size = gz at *
    refine wp_loop (En2 ns A cap n gz n0 n1 w o σ s) (fun a' _ => 2 - (intOf (a'.tmps.getD 56 undef)).toNat) ?_ ?_
    · exact ⟨rfl, rfl, rfl, rfl, rfl, rfl, rfl, rfl, rfl, 0, 0, rfl, by omega, HE2.out, HZ.out⟩
    · clear HE2 HZ
      rintro a' W3 ⟨hsz, hdf, s1, s5, s7, s9, s10, s11, s55, j, nd, s56, hj, hE, hZ⟩
      obtain ⟨u, rfl, hu⟩ := frame127 hsz hdf
      rw [hu] at s1 s5 s7 s9 s10 s11 s55 s56
      simp only [s1, s5, s7, s9, s10, s11, s55, s56]
      clear hsz hdf s1 s5 s7 s9 s10 s11 s55 s56 hu
      have b0 := blk_cell hE.2.1 0 (by simp)
      have b1 := blk_cell hE.2.1 1 (by simp)
      simp only [List.getElem_toArray, List.getElem_cons_zero, List.getElem_cons_succ] at b0 b1
      have HE := Lib.hid hE
      have HZ := Lib.hid hZ
      clear hE hZ
      by_cases hj2 : j < 2
      · rcases (show j = 0 ∨ j = 1 by omega) with rfl | rfl
        · go_wp2_with fail
          refine (over_nil _).mono ?_
          rintro e wx ⟨rfl, hwx⟩
          obtain rfl := hwx.symm
          go_wp2_with fail
          refine (begin_nil n0 n1 _).mono ?_
          rintro e wx ⟨rfl, hwx⟩
          obtain rfl := hwx.symm
          go_wp2_with fail
          refine (step_nil _).mono ?_
          rintro e wx ⟨rfl, hwx⟩
          obtain rfl := hwx.symm
          go_wp2_with fail
          refine (found_nil _).mono ?_
          rintro e wx ⟨rfl, hwx⟩
          obtain rfl := hwx.symm
          go_wp2_with fail
          refine (lastw_nil _).mono ?_
          rintro e wx ⟨rfl, hwx⟩
          obtain rfl := hwx.symm
          go_wp2_with fail
          exact ⟨⟨rfl, rfl, rfl, rfl, rfl, rfl, rfl, rfl, rfl, 1, nd, rfl, by omega, HE.out, HZ.out⟩, by simp [intOf]⟩
        · go_wp2_with fail
          refine (over_wk _ _ _ _ _ _ HZ.out).mono ?_
          rintro e wx ⟨rfl, hwx⟩
          obtain rfl := hwx.symm
          go_wp2_with fail
          refine (begin_wk _ _ _ _ _ _ HZ.out n0 n1).mono ?_
          rintro e W4 ⟨rfl, hz4, hm4⟩
          have e4 : (Wk.first ⟨nd, false, 0, 0, 0⟩ n1).take [] n0 = ⟨n1, false, 0, 0, 0⟩ := by
            unfold Wk.take
            rw [if_pos (by simp [Wk.first])]
            rfl
          rw [e4] at hz4 ⊢
          have HZ4 := Lib.hid hz4
          have HE4 := Lib.hid (HE.out.mod hm4 (by simp; omega))
          clear hz4 hm4 e4 b0 b1
          go_wp2_with fail
          refine (step_off _ _ _ _ _ _ HZ4.out rfl).mono ?_
          rintro e wx ⟨rfl, hwx⟩
          obtain rfl := hwx.symm
          go_wp2_with fail
          refine (found_wk _ _ _ _ _ _ HZ4.out).mono ?_
          rintro e wx ⟨rfl, hwx⟩
          obtain rfl := hwx.symm
          go_wp2_with fail
          refine (lastw_wk _ _ _ _ _ _ HZ4.out).mono ?_
          rintro e wx ⟨rfl, hwx⟩
          obtain rfl := hwx.symm
          go_wp2_with fail
          exact ⟨⟨rfl, rfl, rfl, rfl, rfl, rfl, rfl, rfl, rfl, 2, n1, rfl, by omega, HE4.out, HZ4.out⟩, by simp [intOf]⟩
      · obtain rfl : j = 2 := by omega
        rcases HF.out with hf | ⟨hf1, hf2, hf3⟩
        · have hob := HOB.out
          have e1 : decide ((σ.ops : Int) - (o : Int) ≤ (ns.length : Int)) = true := by simp; omega
          have e2 : IntKind.i64.wrap ((σ.ops : Int) - (o : Int)) = (σ.ops : Int) - (o : Int) := IntWalk.i64_in _ (by omega)
          have HFF := Lib.hid hf
          have e3 := ibeq (rfl : (0 : Int) = 0)
          clear b0 hj2 hj q4 q5 hf hob
          go_wp2_with fail
          have cO := fun d os => Calls.regrown_of (of_same (aops_at _ _ _ _ _ _ _ _ (grow (redrawn W3 d) os) (HE.out.same (below_regrown W3 d os)).1 _ rfl))
          have cF := fun d os => Calls.regrown_of (of_same (found_at _ _ _ _ _ _ _ _ (grow (redrawn W3 d) os) (HE.out.same (below_regrown W3 d os)).1 0 HFF.out))
          have cA := fun d os => Calls.regrown_of (awake30 (grow (redrawn W3 d) os))
          have cO := Lib.hid cO
          have cF := Lib.hid cF
          have cA := Lib.hid cA
          clear b1
          refine wp_region_quiet_below (by kernel_rfl) (by kernel_rfl) ?_
          repeat (any_goals (first | go_big_quiet_step ((first | exact cO.out _ _ | exact cF.out _ _ | exact cA.out _ _)) | quiet_step ((first | exact cO.out _ _ | exact cF.out _ _ | exact cA.out _ _))))
          refine wpQuiet_nil ?_
          intro _ hw'
          obtain ⟨⟨dq, osq⟩, hw''⟩ := hw'
          subst hw''
          go_wp2_with fail
          go_ret
          exact ⟨rfl, HE.out.2.2.2.trans ((below_regrown W3 _ _).mono (by have := lt_of_blk HE.out.2.1; omega))⟩
        · have hob := HOB.out
          have e1 : decide ((σ.ops : Int) - (o : Int) ≤ (ns.length : Int)) = true := by simp; omega
          have e2 : IntKind.i64.wrap ((σ.ops : Int) - (o : Int)) = (σ.ops : Int) - (o : Int) := IntWalk.i64_in _ (by omega)
          obtain ⟨q, hq⟩ := Int.eq_ofNat_of_zero_le (show 0 ≤ s.found - 1 by omega)
          have hf : s.found = (q : Int) + 1 := by omega
          have hql : q < ns.length := by omega
          rw [hf, show ((q : Int) + 1 - 1).toNat = q by omega] at hf3
          obtain ⟨bn, on, rfl, _, hcn⟩ := (HS2.out.below HE.out.2.2.2).at_ (by rw [List.length_map]; omega)
          have g1 := hcn q (by simpa using hql)
          rw [List.getElem_map] at g1
          have hqe : ns[q] = n1 := by rw [← hf3]; simp [hql]
          rw [hqe] at g1
          have HFF := Lib.hid hf
          have e3 := ibeq_no (show ¬ (q : Int) + 1 = 0 by omega)
          have e4 : decide ((1 : Int) ≤ (q : Int) + 1) = true := decide_eq_true (by omega)
          have e5 : decide ((q : Int) + 1 ≤ (ns.length : Int)) = true := by simp; omega
          have e6 : IntKind.i64.wrap ((q : Int) + 1 - 1) = (q : Int) := by rw [IntWalk.i64_in _ (by omega)]; omega
          have e7 : IntKind.i64.wrap (q : Int) = (q : Int) := IntWalk.i64_in _ (by omega)
          have e8 : (q : Int) < (ns.length : Int) := by omega
          have e9 : (0 : Int) ≤ (q : Int) := by omega
          have e10 : (q : Int).toNat = q := by omega
          have e11 := ibeq (rfl : n1 = n1)
          clear b0 hj2 hj q4 q5 hf hob hf1 hf2 hf3 hq hqe hcn
          go_wp2_with fail
          have cO := fun d os => Calls.regrown_of (of_same (aops_at _ _ _ _ _ _ _ _ (grow (redrawn W3 d) os) (HE.out.same (below_regrown W3 d os)).1 _ rfl))
          have cF := fun d os => Calls.regrown_of (of_same (found_at _ _ _ _ _ _ _ _ (grow (redrawn W3 d) os) (HE.out.same (below_regrown W3 d os)).1 ((q : Int) + 1) HFF.out))
          have cA := fun d os => Calls.regrown_of (awake30 (grow (redrawn W3 d) os))
          have cO := Lib.hid cO
          have cF := Lib.hid cF
          have cA := Lib.hid cA
          have k1 := cell_regrown b1
          have k2 := cell_regrown g1
          refine wp_region_quiet_below (by kernel_rfl) (by kernel_rfl) ?_
          repeat (any_goals (first | go_big_quiet_step ((first | exact cO.out _ _ | exact cF.out _ _ | exact cA.out _ _)) | quiet_step ((first | exact cO.out _ _ | exact cF.out _ _ | exact cA.out _ _))))
          refine wpQuiet_nil ?_
          intro _ hw'
          obtain ⟨⟨dq, osq⟩, hw''⟩ := hw'
          subst hw''
          go_wp2_with fail
          go_ret
          exact ⟨rfl, HE.out.2.2.2.trans ((below_regrown W3 _ _).mono (by have := lt_of_blk HE.out.2.1; omega))⟩
  · intro J K' hJ hK'
    go_wp2_with fail
    refine wp_loop (EnJ ns A cap n n0 n1 w o) (fun a' _ => ns.length - (intOf (a'.tmps.getD 12 undef)).toNat) ?_ ?_
    · exact ⟨rfl, rfl, rfl, rfl, rfl, rfl, rfl, 0, σ, s, rfl, rfl, Nat.zero_le _, by omega, HRn.out, HE4.out⟩
    · clear HE4 HRn hoo ho0
      rintro a' W ⟨hsz, hdf, s1, s5, s7, s9, s10, k, σ, s, s11, s12, hk, ho, hrun, hE⟩
      obtain ⟨u, rfl, hu⟩ := frame127 hsz hdf
      rw [hu] at s1 s5 s7 s9 s10 s11 s12
      simp only [s1, s5, s7, s9, s10, s11, s12]
      clear hsz hdf s1 s5 s7 s9 s10 s11 s12 hu
      have HE := Lib.hid hE
      have HR := Lib.hid hrun
      clear hE
      by_cases hgo : k < ns.length ∧ s.way = true
      · obtain ⟨hlt, hw⟩ := hgo
        have hr := hrun.1 hw
        have hp := hrun.2.1
        have HN := Lib.hid (run_next hrun hw 1 1 σ)
        have HO := Lib.hid (stepA_ops 1 1 σ s)
        clear hrun
        have HW := Lib.hid hw
        have HC := Lib.hid (fun W K => step_at n (w.heap.size + 1 + 1) (w.heap.size + 1) ns 1 1 σ s W K (s.next ns 1 1 σ) (stepA 1 1 σ s) (!(s.next ns 1 1 σ).way) (by omega) (by decide) (by decide) (by decide) (by decide) hp (fun _ => ⟨hr.2.1, by omega⟩) rfl rfl (by rw [HW.out, Bool.true_and]))
        rw [hw]
        clear hr hp hw
        generalize s.next ns 1 1 σ = s2 at *
        generalize stepA 1 1 σ s = σ2 at *
        go_wp2_with fail
        refine (HC.out _ HE.out.1).mono ?_
        rintro e W2 ⟨rfl, hs2, hm2⟩
        have HE2 := Lib.hid (HE.out.walked hs2 hm2)
        have ho2 := HO.out
        clear hs2 hm2 HO
        go_wp2_with fail
        exact ⟨⟨rfl, rfl, rfl, rfl, rfl, rfl, rfl, k + 1, σ2, s2, rfl, rfl, hlt, by omega, HN.out, HE2.out⟩, by simp [intOf]; omega⟩
      · have hw : s.way = false := by
          cases hw : s.way
          · rfl
          · have h1 := hrun.1 hw
            have h2 := hrun.2.1
            have : ¬ k < ns.length := fun e => hgo ⟨e, hw⟩
            omega
        have hfd := hrun.2.2.2
        clear hrun hgo
        rw [hw]
        have HW := Lib.hid hw
        clear hw
        have HF := Lib.hid hfd
        clear hfd
        have HX := Lib.hid (show ∃ (σ : Ar) (s : Wk), (σ.ops : Int) - (o : Int) ≤ (ns.length : Int) ∧ -100 ≤ (σ.ops : Int) - (o : Int) ∧ (s.found = 0 ∨ (1 ≤ s.found ∧ s.found ≤ ns.length ∧ ns.getD (s.found - 1).toNat 0 = n1)) ∧ EnF ns A cap n n0 n1 w o σ s W from ⟨σ, s, by omega, by omega, HF.out, HE.out⟩)
        by_cases hlt : k < ns.length
        · go_wp2_with fail
          exact Met.intro (hJ _ _ ⟨rfl, rfl, rfl, rfl, rfl, rfl, rfl, rfl, HX.out⟩)
        · go_wp2_with fail
          exact Met.intro (hJ _ _ ⟨rfl, rfl, rfl, rfl, rfl, rfl, rfl, rfl, HX.out⟩)
set_option maxRecDepth 100000 in
theorem ends_law (w : World) (A1 : Option Addr) (c1 : Nat) (l : List Int) (hc1 : l.length ≤ c1) (hm1 : c1 ≤ maxLen) (_w1 : ∀ e ∈ l, isI64 e) (hs1 : Sl w w.heap.size A1 (l.flatMap decI)) (A2 : Option Addr) (c2 : Nat) (ns : List Int) (hc2 : ns.length ≤ c2) (hm2 : c2 ≤ maxLen) (_w2 : ∀ e ∈ ns, isI64 e) (hs2 : Sl w w.heap.size A2 (ns.flatMap decI))
    (n : List Int) (hn : n.length = 2 ∧ ∀ e ∈ n, isI64 e) :
    Calls Try.prog 12 #[.slice A1 l.length c1, .slice A2 ns.length c2, .agg (n.flatMap decI).toArray] w fun e w' => e = .returned (.bool true) ∧ Below w.heap.size w w' := by
  obtain ⟨n0, n1, rfl⟩ := list2 hn.1
  rw [flatI] at hs1 hs2
  by_cases h1 : l.length ≤ 30
  · by_cases h2 : ns.length ≤ 12
    · exact ends_walk l A1 c1 ns A2 c2 n0 n1 w h1 h2 hs1 hs2
    · have i1 : (l.length : Int) ≤ 30 := by omega
      have i2 : (12 : Int) < (ns.length : Int) := by omega
      have i3 : (ns.length : Int) ≤ 9223372036854775807 := by simp only [maxLen] at hm2; omega
      show Calls Try.prog 12 #[.slice A1 l.length c1, .slice A2 ns.length c2, .agg #[.int .i64 n0, .int .i64 n1]] w _
      clear hs1 hs2 hn
      go_enter Try.func12, Try.ntmps12
      go_wp2_with fail
      refine (awake30 _).mono ?_
      rintro e W3 ⟨rfl, hb⟩
      go_wp2_with fail
      go_ret
      exact ⟨rfl, (below_new _ _).trans (hb.mono (by simp))⟩
  · have i1 : (30 : Int) < (l.length : Int) := by omega
    have i3 : (l.length : Int) ≤ 9223372036854775807 := by simp only [maxLen] at hm1; omega
    show Calls Try.prog 12 #[.slice A1 l.length c1, .slice A2 ns.length c2, .agg #[.int .i64 n0, .int .i64 n1]] w _
    clear hs1 hs2 hn
    go_enter Try.func12, Try.ntmps12
    go_wp2_with fail
    refine (awake30 _).mono ?_
    rintro e W3 ⟨rfl, hb⟩
    go_wp2_with fail
    go_ret
    exact ⟨rfl, (below_new _ _).trans (hb.mono (by simp))⟩
end Go.Proofs.Ytfdcojhgpfmloaa.Ara
