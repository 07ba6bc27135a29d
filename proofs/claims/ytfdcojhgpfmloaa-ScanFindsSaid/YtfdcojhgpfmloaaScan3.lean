/- Package scan: Step, New. -/
import Derived.Test.YtfdcojhgpfmloaaScan2
import Derived.Deep.RegionWith
import Derived.Laws.EntriesVeiled
namespace Go.Proofs.Ytfdcojhgpfmloaa.Ara
open Go.RowKit

theorem drew0s {W : World} : Below W.heap.size W W.drew := Below.drew (Below.refl _ _)
/-- A walk over an arena, as New lays it at n. -/
def Sc (W : World) (n ga ha : Nat) (ns : List Int) (pos step : Int) (σ : Ar) (s : Wk) : Prop :=
  WkAt W (n + 1 + 1 + 1 + 1) (n + 1 + 1 + 1) (clF n) ns s ∧ ArAt W ga ha σ ∧ ClAt W n (some ⟨ga, 0, none⟩) pos step ∧ ga < n ∧ ha < n
theorem Sc.same {W W' : World} {n ga ha : Nat} {ns : List Int} {pos step : Int} {σ : Ar} {s : Wk} (k : Sc W n ga ha ns pos step σ s) (hb : Below W.heap.size W W') : Sc W' n ga ha ns pos step σ s :=
  ⟨k.1.step hb, k.2.1.step hb, k.2.2.1.mod (S := []) (Mod.of_below hb) (by simp), k.2.2.2⟩
theorem Sc.walk {W W' : World} {n ga ha : Nat} {ns : List Int} {pos step : Int} {σ : Ar} {s s' : Wk} (k : Sc W n ga ha ns pos step σ s) (hw : WkAt W' (n + 1 + 1 + 1 + 1) (n + 1 + 1 + 1) (clF n) ns s') (hm : Mod [n + 1 + 1 + 1 + 1] W W') : Sc W' n ga ha ns pos step σ s' :=
  ⟨hw, k.2.1.mod hm (by have := k.2.2.2.1; simp; omega) (by have := k.2.2.2.2; simp; omega), k.2.2.1.mod hm (by simp), k.2.2.2⟩
theorem Sc.arena {W W' : World} {n ga ha : Nat} {ns : List Int} {pos step : Int} {σ σ' : Ar} {s : Wk} (k : Sc W n ga ha ns pos step σ s) (ha' : ArAt W' ga ha σ') (hm : Mod [ga, ha] W W') : Sc W' n ga ha ns pos step σ' s :=
  ⟨k.1.mod hm (by have := k.2.2.2; simp; omega) (by have := k.2.2.2; simp; omega), ha', k.2.2.1.mod hm (by have := k.2.2.2; simp; omega), k.2.2.2⟩
def Wk.next (ns : List Int) (pos step : Int) (σ : Ar) (s : Wk) : Wk := if s.way then s.take ns (σ.get (pos + step * (s.last - 1))) else s
def stepA (pos step : Int) (σ : Ar) (s : Wk) : Ar := if s.way then σ.op 1 (pos + step * (s.last - 1)) false 0 else σ
section
variable (n ga ha : Nat) (ns : List Int) (pos step : Int) (σ : Ar) (s : Wk) (w : World) (H : Sc w n ga ha ns pos step σ s)
include H
set_option maxHeartbeats 4000000 in
set_option maxRecDepth 100000 in
theorem step_sc (ho : σ.ops ≤ 1000000) (p1 : -1000 ≤ pos) (p2 : pos ≤ 1000) (s1 : -1000 ≤ step) (s2 : step ≤ 1000) (hp : s.passed ≤ ns.length) (hl : s.way = true → 1 ≤ s.last ∧ s.last ≤ 4096) :
    Calls Try.prog 56 #[.pointer (some ⟨n + 1 + 1 + 1 + 1, 0, none⟩)] w fun e w' => e = .returned (.bool (s.way && !(s.next ns pos step σ).way)) ∧ Sc w' n ga ha ns pos step (stepA pos step σ s) (s.next ns pos step σ) ∧ Mod [n + 1 + 1 + 1 + 1, ga, ha] w w' := by
  unfold Wk.next stepA
  have HO := Lib.hid (over_wk _ _ _ _ _ w H.1)
  cases hw : s.way
  · rw [hw] at HO
    have HH := Lib.hid H
    clear H hl hp
    rw [if_neg (by decide), if_neg (by decide), Bool.false_and]
    have HW := Lib.hid hw
    clear hw
    go_enter Try.func56, Try.ntmps56
    go_wp2_with fail
    refine (HO.out).mono ?_
    rintro e wx ⟨rfl, hwx⟩
    obtain rfl := hwx.symm
    go_wp2_with fail
    go_ret
    exact ⟨rfl, HH.out, Mod.refl _ _⟩
  · rw [hw] at HO
    obtain ⟨l1, l2⟩ := hl hw
    obtain ⟨A, _, c0, _, _, _, _, c5, _⟩ := H.1.heads
    have HH := Lib.hid H
    have HP := Lib.hid hp
    have HA := Lib.hid ho
    obtain ⟨_, _, _, d1, d2⟩ := H
    clear hl hp hw ho
    rw [if_pos rfl, if_pos rfl, Bool.true_and]
    have HB := Lib.hid (fun W K => behind_any n ga ha σ pos step W (K : Sc W n ga ha ns pos step σ s).2.1 K.2.2.1 HA.out p1 p2 s1 s2 s.last l1 (by omega))
    have HT := Lib.hid (fun W K => take_wk (n + 1 + 1 + 1 + 1) (n + 1 + 1 + 1) (clF n) ns s W K HP.out (σ.get (pos + step * (s.last - 1))))
    generalize σ.get (pos + step * (s.last - 1)) = x at *
    generalize σ.op 1 (pos + step * (s.last - 1)) false 0 = σ2 at *
    generalize s.take ns x = s2' at *
    have hnn : ∀ (fn : Fn) (first cap : Array Value) (w : World), (Instr.makeFunc fn first cap).run Try.prog w = .ok (.func fn first cap) w := fun _ _ _ _ => rfl
    unfold clF at c0
    go_enter Try.func56, Try.ntmps56
    go_wp2_with fail
    refine (HO.out).mono ?_
    rintro e wx ⟨rfl, hwx⟩
    obtain rfl := hwx.symm
    go_wp2_with fail
    have HD := Lib.hid (HH.out.same drew0s)
    have hmd : Mod [n + 1 + 1 + 1 + 1, ga, ha] w w.drew := (Mod.refl _ _).drew
    go_region_with (first
      | (go_at_call 91; refine (HB.out _ HD.out).mono ?_; rintro e w2 ⟨rfl, ha2, hm2⟩; have H2 := Lib.hid (HD.out.arena ha2 hm2); clear ha2)
      | (go_at_call 92; refine (HT.out _ H2.out.1).mono ?_; rintro e w3 ⟨rfl, ht3, hm3⟩; have H3 := Lib.hid (H2.out.walk ht3 hm3); clear ht3))
    skip
    all_goals
      go_wp2_with fail
      go_ret
      exact ⟨rfl, H3.out, (hmd.trans (hm2.sub (by simp))).trans (hm3.sub (by simp))⟩
end
/-- What New lays down ahead of its copy. -/
def nw (w : World) (ga : Nat) (pos step : Int) (n : Nat) : World :=
  ((((w.alloc (.cells #[.pointer (some ⟨ga, 0, none⟩)] 48)).alloc (.cells #[.int .i64 pos] 3)).alloc (.cells #[.int .i64 step] 3)).alloc (.cells (Array.replicate n (.int .i64 0)) 3)).alloc
    (.cells #[.nilFunc, .slice (some ⟨w.heap.size + 1 + 1 + 1, 0, none⟩) n n, .int .i64 0, .bool false, .int .i64 0, .int .i64 0, .int .i64 0] 97)
theorem nw_below (w : World) (ga : Nat) (pos step : Int) (n : Nat) : Below w.heap.size w (nw w ga pos step n) := (((((below_new _ _).alloc (by simp) _).alloc (by simp; omega) _).alloc (by simp; omega) _).alloc (by simp; omega) _)
theorem nw_size (w : World) (ga : Nat) (pos step : Int) (n : Nat) : (nw w ga pos step n).heap.size = w.heap.size + 1 + 1 + 1 + 1 + 1 := by simp [nw]
theorem nw_cl (w : World) (ga : Nat) (pos step : Int) (n : Nat) : ClAt (nw w ga pos step n) w.heap.size (some ⟨ga, 0, none⟩) pos step := by
  refine ⟨?_, ?_, ?_⟩
  · exact blk_alloc (blk_alloc (blk_alloc (blk_alloc (blk_new w _) _) _) _) _
  · have := blk_alloc (blk_alloc (blk_alloc (blk_new (w.alloc (.cells #[.pointer (some ⟨ga, 0, none⟩)] 48)) (.cells #[.int .i64 pos] 3)) (.cells #[.int .i64 step] 3)) (.cells (Array.replicate n (.int .i64 0)) 3))
      (.cells #[.nilFunc, .slice (some ⟨w.heap.size + 1 + 1 + 1, 0, none⟩) n n, .int .i64 0, .bool false, .int .i64 0, .int .i64 0, .int .i64 0] 97)
    simpa [nw] using this
  · have := blk_alloc (blk_alloc (blk_new ((w.alloc (.cells #[.pointer (some ⟨ga, 0, none⟩)] 48)).alloc (.cells #[.int .i64 pos] 3)) (.cells #[.int .i64 step] 3)) (.cells (Array.replicate n (.int .i64 0)) 3))
      (.cells #[.nilFunc, .slice (some ⟨w.heap.size + 1 + 1 + 1, 0, none⟩) n n, .int .i64 0, .bool false, .int .i64 0, .int .i64 0, .int .i64 0] 97)
    simpa [nw] using this
theorem nw_row (w : World) (ga : Nat) (pos step : Int) (n : Nat) : (nw w ga pos step n).heap[w.heap.size + 1 + 1 + 1]? = some (.cells (Array.replicate n (.int .i64 0)) 3 (0, 0)) := by
  have := blk_alloc (blk_new (((w.alloc (.cells #[.pointer (some ⟨ga, 0, none⟩)] 48)).alloc (.cells #[.int .i64 pos] 3)).alloc (.cells #[.int .i64 step] 3)) (.cells (Array.replicate n (.int .i64 0)) 3))
      (.cells #[.nilFunc, .slice (some ⟨w.heap.size + 1 + 1 + 1, 0, none⟩) n n, .int .i64 0, .bool false, .int .i64 0, .int .i64 0, .int .i64 0] 97)
  simpa [nw] using this
theorem nw_walk (w : World) (ga : Nat) (pos step : Int) (n : Nat) : (nw w ga pos step n).heap[w.heap.size + 1 + 1 + 1 + 1]? = some (.cells #[.nilFunc, .slice (some ⟨w.heap.size + 1 + 1 + 1, 0, none⟩) n n, .int .i64 0, .bool false, .int .i64 0, .int .i64 0, .int .i64 0] 97 (0, 0)) := by
  have := blk_new ((((w.alloc (.cells #[.pointer (some ⟨ga, 0, none⟩)] 48)).alloc (.cells #[.int .i64 pos] 3)).alloc (.cells #[.int .i64 step] 3)).alloc (.cells (Array.replicate n (.int .i64 0)) 3))
      (.cells #[.nilFunc, .slice (some ⟨w.heap.size + 1 + 1 + 1, 0, none⟩) n n, .int .i64 0, .bool false, .int .i64 0, .int .i64 0, .int .i64 0] 97)
  simpa [nw] using this
theorem nw_after {w w2 : World} {ga : Nat} {pos step : Int} {n : Nat} (h : Mod [w.heap.size + 1 + 1 + 1] (nw w ga pos step n) w2) : Below w.heap.size w w2 ∧ w.heap.size + 1 + 1 + 1 + 1 + 1 ≤ w2.heap.size :=
  ⟨(nw_below w ga pos step n).trans (h.below (by rw [nw_size]; omega) (by simp; omega)), by have := h.size; rw [nw_size] at this; exact this⟩
theorem infoS : (Try.prog.info? 3).map (·.size) = some 1 := by kernel_rfl
set_option maxHeartbeats 4000000 in
set_option maxRecDepth 100000 in
theorem new_sc (ga : Nat) (pos step : Int) (A : Option Addr) (c : Nat) (ns : List Int) (w : World) (hn : ns.length ≤ 4096) (hs : Sl w w.heap.size A (ns.map (Value.int .i64))) :
    Calls Try.prog 53 #[.pointer (some ⟨ga, 0, none⟩), .int .i64 pos, .int .i64 step, .slice A ns.length c] w fun e w' => e = .returned (.pointer (some ⟨w.heap.size + 1 + 1 + 1 + 1, 0, none⟩)) ∧
      WkAt w' (w.heap.size + 1 + 1 + 1 + 1) (w.heap.size + 1 + 1 + 1) (clF w.heap.size) ns ⟨0, false, 0, 0, 0⟩ ∧ ClAt w' w.heap.size (some ⟨ga, 0, none⟩) pos step ∧ w.heap.size + 1 + 1 + 1 + 1 + 1 ≤ w'.heap.size ∧ Below w.heap.size w w' := by
  have hmk := fun W => make_ints ns.length (by omega) W
  have hmf : ∀ (fn : Fn) (first cap : Array Value) (w : World), (Instr.makeFunc fn first cap).run Try.prog w = .ok (.func fn first cap) w := fun _ _ _ _ => rfl
  have b0 : (ns.length : Int) ≤ 4096 := by omega
  have HS := Lib.hid hs
  clear hs
  have HR := Lib.hid (nw_row w ga pos step ns.length)
  have HX := Lib.hid (HS.out.below (nw_below w ga pos step ns.length))
  go_enter Try.func53, Try.ntmps53
  go_wp2_with (refine wpList_copy_row (.tmp 18) (.tmp 19) 63 63 3 rfl rfl Try.underlying63 infoS (w.heap.size + 1 + 1 + 1) ns.length c ns.length A rfl rfl (Array.replicate ns.length (.int .i64 0)) 3 HR.out (ns.map (Value.int .i64)) _ HX.out (by simp) (by simp) (by simp [Value.oneCell']) ?_; intro w2 hb2 hm2; have HW := hm2.out.blk (nw_walk w ga pos step ns.length) (by simp); have g0 : w2.cell? ⟨w.heap.size + 1 + 1 + 1 + 1, 0, none⟩ = some .nilFunc := blk_cell HW 0 (by simp); have f0 := blk_free HW 0; have HW := Lib.hid HW)
  have hm3 : Mod [w.heap.size + 1 + 1 + 1 + 1] w2 (w2.setCell ⟨w.heap.size + 1 + 1 + 1 + 1, 0, none⟩ (clF w.heap.size)) := (Mod.refl _ _).setCell (by simp) _
  go_ret
  refine ⟨rfl, ⟨hn, _, blk_set HW.out 0 (clF w.heap.size), .inr ⟨rfl, by omega, hm3.blk hb2.out (by simp)⟩⟩, ((nw_cl w ga pos step ns.length).mod hm2.out (by simp)).mod hm3 (by simp), Nat.le_trans (nw_after hm2.out).2 hm3.size, (nw_after hm2.out).1.trans (hm3.below (Nat.le_trans (by omega) (nw_after hm2.out).2) (by simp; omega))⟩
end Go.Proofs.Ytfdcojhgpfmloaa.Ara
