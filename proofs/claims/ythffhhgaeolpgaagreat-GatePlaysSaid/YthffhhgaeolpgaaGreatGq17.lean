/- Merged texts: Rnw, Rnc, Fl1, Fl2, TkI. -/
import Derived.Test.YthffhhgaeolpgaaGreatGq16
set_option linter.unusedVariables false
/- The document's locks of the layers 15 to 18: New. -/
namespace Go.Proofs.YthffhhgaeolpgaaGreat
open Go.RowKit Go.Proofs.YthffhhgaeolpgaaGreat.Ara Go.Proofs.YthffhhgaeolpgaaGreat.Lok

theorem rn15_arg (q : Option Addr) (n most : Int) (h : ¬ ((1 ≤ n ∧ n ≤ 32) ∧ 1 ≤ most ∧ most ≤ 1024)) (w : World) : Calls Tryz.prog 59 #[.pointer q, .int .i64 n, .int .i64 most] w fun e w' => e = .returned (.tuple #[.pointer none, .int .i64 1]) ∧ w' = w := by
  rcases (show n < 1 ∨ (1 ≤ n ∧ 32 < n) ∨ (1 ≤ n ∧ n ≤ 32 ∧ most < 1) ∨ (1 ≤ n ∧ n ≤ 32 ∧ 1 ≤ most ∧ 1024 < most) by omega) with h1 | ⟨h1, h2⟩ | ⟨h1, h2, h3⟩ | ⟨h1, h2, h3, h4⟩
  · go_enter Tryz.func59, Tryz.ntmps59
    go_wp2_with fail
    go_ret2
    exact ⟨rfl, by trivial⟩
  · have d1 : decide (n < 1) = false := decide_eq_false (by omega)
    go_enter Tryz.func59, Tryz.ntmps59
    go_wp2_with fail
    go_ret2
    exact ⟨rfl, by trivial⟩
  · have d1 : decide (n < 1) = false := decide_eq_false (by omega)
    have d2 : decide (32 < n) = false := decide_eq_false (by omega)
    go_enter Tryz.func59, Tryz.ntmps59
    go_wp2_with fail
    go_ret2
    exact ⟨rfl, by trivial⟩
  · have d1 : decide (n < 1) = false := decide_eq_false (by omega)
    have d2 : decide (32 < n) = false := decide_eq_false (by omega)
    have d3 : decide (most < 1) = false := decide_eq_false (by omega)
    go_enter Tryz.func59, Tryz.ntmps59
    go_wp2_with fail
    go_ret2
    exact ⟨rfl, by trivial⟩
theorem rn16_arg (q : Option Addr) (n : Int) (h : ¬ (1 ≤ n ∧ n ≤ 32)) (w : World) : Calls Tryz.prog 60 #[.pointer q, .int .i64 n] w fun e w' => e = .returned (.tuple #[.pointer none, .int .i64 1]) ∧ w' = w := by
  rcases (show n < 1 ∨ (1 ≤ n ∧ 32 < n) by omega) with h1 | ⟨h1, h2⟩
  · go_enter Tryz.func60, Tryz.ntmps60
    go_wp2_with fail
    go_ret2
    exact ⟨rfl, by trivial⟩
  · have d1 : decide (n < 1) = false := decide_eq_false (by omega)
    go_enter Tryz.func60, Tryz.ntmps60
    go_wp2_with fail
    go_ret2
    exact ⟨rfl, by trivial⟩
theorem rn17_arg (q : Option Addr) (n parts : Int) (h : ¬ ((1 ≤ n ∧ n ≤ 32) ∧ 1 ≤ parts ∧ parts ≤ 32)) (w : World) : Calls Tryz.prog 61 #[.pointer q, .int .i64 n, .int .i64 parts] w fun e w' => e = .returned (.tuple #[.pointer none, .int .i64 1]) ∧ w' = w := by
  rcases (show n < 1 ∨ (1 ≤ n ∧ 32 < n) ∨ (1 ≤ n ∧ n ≤ 32 ∧ parts < 1) ∨ (1 ≤ n ∧ n ≤ 32 ∧ 1 ≤ parts ∧ 32 < parts) by omega) with h1 | ⟨h1, h2⟩ | ⟨h1, h2, h3⟩ | ⟨h1, h2, h3, h4⟩
  · go_enter Tryz.func61, Tryz.ntmps61
    go_wp2_with fail
    go_ret2
    exact ⟨rfl, by trivial⟩
  · have d1 : decide (n < 1) = false := decide_eq_false (by omega)
    go_enter Tryz.func61, Tryz.ntmps61
    go_wp2_with fail
    go_ret2
    exact ⟨rfl, by trivial⟩
  · have d1 : decide (n < 1) = false := decide_eq_false (by omega)
    have d2 : decide (32 < n) = false := decide_eq_false (by omega)
    go_enter Tryz.func61, Tryz.ntmps61
    go_wp2_with fail
    go_ret2
    exact ⟨rfl, by trivial⟩
  · have d1 : decide (n < 1) = false := decide_eq_false (by omega)
    have d2 : decide (32 < n) = false := decide_eq_false (by omega)
    have d3 : decide (parts < 1) = false := decide_eq_false (by omega)
    go_enter Tryz.func61, Tryz.ntmps61
    go_wp2_with fail
    go_ret2
    exact ⟨rfl, by trivial⟩
theorem rn18_arg (q : Option Addr) (n : Int) (h : ¬ (1 ≤ n ∧ n ≤ 32)) (w : World) : Calls Tryz.prog 62 #[.pointer q, .int .i64 n] w fun e w' => e = .returned (.tuple #[.pointer none, .int .i64 1]) ∧ w' = w := by
  rcases (show n < 1 ∨ (1 ≤ n ∧ 32 < n) by omega) with h1 | ⟨h1, h2⟩
  · go_enter Tryz.func62, Tryz.ntmps62
    go_wp2_with fail
    go_ret2
    exact ⟨rfl, by trivial⟩
  · have d1 : decide (n < 1) = false := decide_eq_false (by omega)
    go_enter Tryz.func62, Tryz.ntmps62
    go_wp2_with fail
    go_ret2
    exact ⟨rfl, by trivial⟩
theorem rn19_arg (q : Option Addr) (n : Int) (h : ¬ (1 ≤ n ∧ n ≤ 32)) (w : World) : Calls Tryz.prog 63 #[.pointer q, .int .i64 n] w fun e w' => e = .returned (.tuple #[.pointer none, .int .i64 1]) ∧ w' = w := by
  rcases (show n < 1 ∨ (1 ≤ n ∧ 32 < n) by omega) with h1 | ⟨h1, h2⟩
  · go_enter Tryz.func63, Tryz.ntmps63
    go_wp2_with fail
    go_ret2
    exact ⟨rfl, by trivial⟩
  · have d1 : decide (n < 1) = false := decide_eq_false (by omega)
    go_enter Tryz.func63, Tryz.ntmps63
    go_wp2_with fail
    go_ret2
    exact ⟨rfl, by trivial⟩
def RFull (gr base : Nat) (ρ : Rf) (w : World) (e : Ending) (w' : World) : Prop := e = .returned (.tuple #[.pointer none, .int .i64 3]) ∧ RfAt w' gr base ρ ∧ RMs base [gr] w w'
section
variable (gr base : Nat) (ρ : Rf) (w : World) (H : RfAt w gr base ρ) (n : Int) (n1 : 1 ≤ n) (n2 : n ≤ 32)
include H n1 n2
theorem rn15_full (most : Int) (m1 : 1 ≤ most) (m2 : most ≤ 1024) (ht : ρ.take 1 = ((0, 3), ρ)) : Calls Tryz.prog 59 #[.pointer (some ⟨gr, 0, none⟩), .int .i64 n, .int .i64 most] w (RFull gr base ρ w) := by
  have HT := rtake_any gr base ρ w H 1
  have d3 : decide (most < 1) = false := decide_eq_false (by omega)
  have d4 : decide (1024 < most) = false := decide_eq_false (by omega)
  rw [ht] at HT
  replace HT := Lib.hid HT
  clear H ht
  have d1 : decide (n < 1) = false := decide_eq_false (by omega)
  have d2 : decide (32 < n) = false := decide_eq_false (by omega)
  go_enter Tryz.func59, Tryz.ntmps59
  go_wp2_with fail
  refine HT.out.mono ?_
  rintro e w2 ⟨rfl, h2, hm2⟩
  have H2 := Lib.hid h2
  have HM := Lib.hid (RMs.of_r (S := [gr]) hm2 (by simp))
  clear h2 hm2
  go_wp2_with fail
  go_ret2
  exact ⟨rfl, H2.out, HM.out⟩
theorem rn16_full (ht : ρ.take 2 = ((0, 3), ρ)) : Calls Tryz.prog 60 #[.pointer (some ⟨gr, 0, none⟩), .int .i64 n] w (RFull gr base ρ w) := by
  have HT := rtake_any gr base ρ w H 2
  rw [ht] at HT
  replace HT := Lib.hid HT
  clear H ht
  have d1 : decide (n < 1) = false := decide_eq_false (by omega)
  have d2 : decide (32 < n) = false := decide_eq_false (by omega)
  go_enter Tryz.func60, Tryz.ntmps60
  go_wp2_with fail
  refine HT.out.mono ?_
  rintro e w2 ⟨rfl, h2, hm2⟩
  have H2 := Lib.hid h2
  have HM := Lib.hid (RMs.of_r (S := [gr]) hm2 (by simp))
  clear h2 hm2
  go_wp2_with fail
  go_ret2
  exact ⟨rfl, H2.out, HM.out⟩
theorem rn17_full (parts : Int) (m1 : 1 ≤ parts) (m2 : parts ≤ 32) (ht : ρ.take (1 + parts) = ((0, 3), ρ)) : Calls Tryz.prog 61 #[.pointer (some ⟨gr, 0, none⟩), .int .i64 n, .int .i64 parts] w (RFull gr base ρ w) := by
  have HT := rtake_any gr base ρ w H (1 + parts)
  have d3 : decide (parts < 1) = false := decide_eq_false (by omega)
  have d4 : decide (32 < parts) = false := decide_eq_false (by omega)
  have e1 : IntKind.i64.wrap (1 + parts) = 1 + parts := IntWalk.i64_in _ (by omega)
  rw [ht] at HT
  replace HT := Lib.hid HT
  clear H ht
  have d1 : decide (n < 1) = false := decide_eq_false (by omega)
  have d2 : decide (32 < n) = false := decide_eq_false (by omega)
  go_enter Tryz.func61, Tryz.ntmps61
  go_wp2_with fail
  refine HT.out.mono ?_
  rintro e w2 ⟨rfl, h2, hm2⟩
  have H2 := Lib.hid h2
  have HM := Lib.hid (RMs.of_r (S := [gr]) hm2 (by simp))
  clear h2 hm2
  go_wp2_with fail
  go_ret2
  exact ⟨rfl, H2.out, HM.out⟩
theorem rn18_full (ht : ρ.take (1 + 2 * n) = ((0, 3), ρ)) : Calls Tryz.prog 62 #[.pointer (some ⟨gr, 0, none⟩), .int .i64 n] w (RFull gr base ρ w) := by
  have HT := rtake_any gr base ρ w H (1 + 2 * n)
  have e1 : IntKind.i64.wrap (2 * n) = 2 * n := IntWalk.i64_in _ (by omega)
  have e2 : IntKind.i64.wrap (1 + 2 * n) = 1 + 2 * n := IntWalk.i64_in _ (by omega)
  rw [ht] at HT
  replace HT := Lib.hid HT
  clear H ht
  have d1 : decide (n < 1) = false := decide_eq_false (by omega)
  have d2 : decide (32 < n) = false := decide_eq_false (by omega)
  go_enter Tryz.func62, Tryz.ntmps62
  go_wp2_with fail
  refine HT.out.mono ?_
  rintro e w2 ⟨rfl, h2, hm2⟩
  have H2 := Lib.hid h2
  have HM := Lib.hid (RMs.of_r (S := [gr]) hm2 (by simp))
  clear h2 hm2
  go_wp2_with fail
  go_ret2
  exact ⟨rfl, H2.out, HM.out⟩
theorem rn19_full (ht : ρ.take (n + 2) = ((0, 3), ρ)) : Calls Tryz.prog 63 #[.pointer (some ⟨gr, 0, none⟩), .int .i64 n] w (RFull gr base ρ w) := by
  have HT := rtake_any gr base ρ w H (n + 2)
  have e1 : IntKind.i64.wrap (n + 2) = n + 2 := IntWalk.i64_in _ (by omega)
  rw [ht] at HT
  replace HT := Lib.hid HT
  clear H ht
  have d1 : decide (n < 1) = false := decide_eq_false (by omega)
  have d2 : decide (32 < n) = false := decide_eq_false (by omega)
  go_enter Tryz.func63, Tryz.ntmps63
  go_wp2_with fail
  refine HT.out.mono ?_
  rintro e w2 ⟨rfl, h2, hm2⟩
  have H2 := Lib.hid h2
  have HM := Lib.hid (RMs.of_r (S := [gr]) hm2 (by simp))
  clear h2 hm2
  go_wp2_with fail
  go_ret2
  exact ⟨rfl, H2.out, HM.out⟩
end
section
variable (gr base : Nat) (ρ ρ1 : Rf) (w : World) (H : RfAt w gr base ρ) (hgr : gr < w.heap.size) (n : Nat) (n1 : 1 ≤ n) (n2 : n ≤ 32) (next : Int)
include H hgr n1 n2
set_option maxHeartbeats 4000000 in
set_option maxRecDepth 100000 in
theorem rn15_ok (most : Int) (m1 : 1 ≤ most) (m2 : most ≤ 1024) (ht : ρ.take 1 = ((next, 0), ρ1)) : Calls Tryz.prog 59 #[.pointer (some ⟨gr, 0, none⟩), .int .i64 (n : Int), .int .i64 most] w fun e w' => ∃ gL hs, e = .returned (.tuple #[.pointer (some ⟨gL, 0, none⟩), .int .i64 0]) ∧ Ta.RLk w' gL gr base hs ⟨next, most⟩ (ρ1) (zeros n) ∧ w.heap.size ≤ gL ∧ w.heap.size ≤ hs ∧ RMs base [gr] w w' := by
  have HT := rtake_any gr base ρ w H 1
  have d3 : decide (most < 1) = false := decide_eq_false (by omega)
  have d4 : decide (1024 < most) = false := decide_eq_false (by omega)
  rw [ht] at HT
  replace HT := Lib.hid HT
  clear H ht
  have i1 : (1 : Int) ≤ (n : Int) := by omega
  have i2 : (n : Int) ≤ 32 := by omega
  have d1 : decide ((n : Int) < 1) = false := decide_eq_false (by omega)
  have d2 : decide ((32 : Int) < n) = false := decide_eq_false (by omega)
  go_enter Tryz.func59, Tryz.ntmps59
  go_wp2_with fail
  refine HT.out.mono ?_
  rintro e w2 ⟨rfl, h2, hm2⟩
  have HM := Lib.hid (RMs.of_r (S := [gr]) hm2 (by simp))
  have hz2 := hm2.size
  have H2 := Lib.hid h2
  clear h2 hm2 HT
  go_wp2_with fail
  refine (rspots n n1 n2 _).mono ?_
  rintro e w3 ⟨hs, c, rfl, hsp, hz3, hb3⟩
  have hz := hb3.size
  have hlt := hsp.lt
  have hbn := below_new w3 (.cells #[.pointer (some ⟨gr, 0, none⟩), .int .i64 next, .int .i64 most, .slice (some ⟨hs, 0, none⟩) n c] 140)
  have hb4 := hb3.trans (hbn.mono hz)
  have H4 := Lib.hid (show Ta.RLk (w3.alloc (.cells #[.pointer (some ⟨gr, 0, none⟩), .int .i64 next, .int .i64 most, .slice (some ⟨hs, 0, none⟩) n c] 140)) w3.heap.size gr base hs ⟨next, most⟩ (ρ1) (zeros n) from ⟨rf_mod (S := []) H2.out (Mod.of_below hb4) (by simp), hsp.mod (S := []) (Mod.of_below hbn) (by simp), by rw [zeros_len]; exact n2, ⟨c, by rw [zeros_len]; exact blk_new w3 (.cells #[.pointer (some ⟨gr, 0, none⟩), .int .i64 next, .int .i64 most, .slice (some ⟨hs, 0, none⟩) n c] 140)⟩, by omega, by omega, by omega⟩)
  have HM4 := Lib.hid (HM.out.trans (RMs.of_mod (Mod.of_below hb4)))
  clear hsp hb3 hbn hb4 H2 HM
  go_wp2_with fail
  go_ret2
  exact ⟨w3.heap.size, hs, rfl, H4.out, by omega, by omega, HM4.out⟩
set_option maxHeartbeats 4000000 in
set_option maxRecDepth 100000 in
theorem rn16_ok (x1 : 1 ≤ next) (x2 : next ≤ 4096) (ht : ρ.take 2 = ((next, 0), ρ1)) : Calls Tryz.prog 60 #[.pointer (some ⟨gr, 0, none⟩), .int .i64 (n : Int)] w fun e w' => ∃ gL hs, e = .returned (.tuple #[.pointer (some ⟨gL, 0, none⟩), .int .i64 0]) ∧ Tk.RLk w' gL gr base hs ⟨next⟩ (ρ1) (zeros n) ∧ w.heap.size ≤ gL ∧ w.heap.size ≤ hs ∧ RMs base [gr] w w' := by
  have HT := rtake_any gr base ρ w H 2
  have e1 : IntKind.i64.wrap (next + 1) = next + 1 := IntWalk.i64_in _ (by omega)
  rw [ht] at HT
  replace HT := Lib.hid HT
  clear H ht
  have i1 : (1 : Int) ≤ (n : Int) := by omega
  have i2 : (n : Int) ≤ 32 := by omega
  have d1 : decide ((n : Int) < 1) = false := decide_eq_false (by omega)
  have d2 : decide ((32 : Int) < n) = false := decide_eq_false (by omega)
  go_enter Tryz.func60, Tryz.ntmps60
  go_wp2_with fail
  refine HT.out.mono ?_
  rintro e w2 ⟨rfl, h2, hm2⟩
  have HM := Lib.hid (RMs.of_r (S := [gr]) hm2 (by simp))
  have hz2 := hm2.size
  have H2 := Lib.hid h2
  clear h2 hm2 HT
  go_wp2_with fail
  refine (rspots n n1 n2 _).mono ?_
  rintro e w3 ⟨hs, c, rfl, hsp, hz3, hb3⟩
  have hz := hb3.size
  have hlt := hsp.lt
  have hbn := below_new w3 (.cells #[.pointer (some ⟨gr, 0, none⟩), .int .i64 next, .int .i64 (next + 1), .slice (some ⟨hs, 0, none⟩) n c] 142)
  have hb4 := hb3.trans (hbn.mono hz)
  have H4 := Lib.hid (show Tk.RLk (w3.alloc (.cells #[.pointer (some ⟨gr, 0, none⟩), .int .i64 next, .int .i64 (next + 1), .slice (some ⟨hs, 0, none⟩) n c] 142)) w3.heap.size gr base hs ⟨next⟩ (ρ1) (zeros n) from ⟨rf_mod (S := []) H2.out (Mod.of_below hb4) (by simp), hsp.mod (S := []) (Mod.of_below hbn) (by simp), by rw [zeros_len]; exact n2, ⟨c, by rw [zeros_len]; exact blk_new w3 (.cells #[.pointer (some ⟨gr, 0, none⟩), .int .i64 next, .int .i64 (next + 1), .slice (some ⟨hs, 0, none⟩) n c] 142)⟩, by omega, by omega, by omega⟩)
  have HM4 := Lib.hid (HM.out.trans (RMs.of_mod (Mod.of_below hb4)))
  clear hsp hb3 hbn hb4 H2 HM
  go_wp2_with fail
  go_ret2
  exact ⟨w3.heap.size, hs, rfl, H4.out, by omega, by omega, HM4.out⟩
set_option maxHeartbeats 4000000 in
set_option maxRecDepth 100000 in
theorem rn17_ok (parts : Int) (m1 : 1 ≤ parts) (m2 : parts ≤ 32) (x1 : 1 ≤ next) (x2 : next ≤ 4096) (ho : ρ1.ops < 1000000) (ht : ρ.take (1 + parts) = ((next, 0), ρ1)) : Calls Tryz.prog 61 #[.pointer (some ⟨gr, 0, none⟩), .int .i64 (n : Int), .int .i64 parts] w fun e w' => ∃ gL hs, e = .returned (.tuple #[.pointer (some ⟨gL, 0, none⟩), .int .i64 0]) ∧ Pt.RLk w' gL gr base hs ⟨next, parts⟩ (ρ1.op 2 (Pt.place ⟨next, parts⟩ 0) true 1) (zeros n) ∧ w.heap.size ≤ gL ∧ w.heap.size ≤ hs ∧ RMs base [gr] w w' := by
  have HT := rtake_any gr base ρ w H (1 + parts)
  have d3 : decide (parts < 1) = false := decide_eq_false (by omega)
  have d4 : decide (32 < parts) = false := decide_eq_false (by omega)
  have e1 : IntKind.i64.wrap (next + 1) = next + 1 := IntWalk.i64_in _ (by omega)
  have e2 : IntKind.i64.wrap (1 + parts) = 1 + parts := IntWalk.i64_in _ (by omega)
  have HO := Lib.hid ho
  have ep : Pt.place ⟨next, parts⟩ 0 = next + 1 := by show next + 1 + 0 % parts = _; simp
  rw [ep]
  rw [ht] at HT
  replace HT := Lib.hid HT
  clear H ht
  have i1 : (1 : Int) ≤ (n : Int) := by omega
  have i2 : (n : Int) ≤ 32 := by omega
  have d1 : decide ((n : Int) < 1) = false := decide_eq_false (by omega)
  have d2 : decide ((32 : Int) < n) = false := decide_eq_false (by omega)
  go_enter Tryz.func61, Tryz.ntmps61
  go_wp2_with fail
  refine HT.out.mono ?_
  rintro e w2 ⟨rfl, h2, hm2⟩
  have HM := Lib.hid (RMs.of_r (S := [gr]) hm2 (by simp))
  have hz2 := hm2.size
  have HSt := Lib.hid (rstore_any gr base ρ1 w2 h2 (next + 1) HO.out 1)
  clear h2 hm2 HT ep
  go_wp2_with fail
  refine HSt.out.mono ?_
  rintro e w5 ⟨rfl, h5, hm5⟩
  have H2 := Lib.hid h5
  have hz5 := hm5.size
  have HM5 := Lib.hid (HM.out.trans (RMs.of_r (S := [gr]) hm5 (by simp)))
  clear HM
  have HM := HM5
  clear HM5 h5 hm5 HSt
  go_wp2_with fail
  refine (rspots n n1 n2 _).mono ?_
  rintro e w3 ⟨hs, c, rfl, hsp, hz3, hb3⟩
  have hz := hb3.size
  have hlt := hsp.lt
  have hbn := below_new w3 (.cells #[.pointer (some ⟨gr, 0, none⟩), .int .i64 next, .int .i64 parts, .slice (some ⟨hs, 0, none⟩) n c] 144)
  have hb4 := hb3.trans (hbn.mono hz)
  have H4 := Lib.hid (show Pt.RLk (w3.alloc (.cells #[.pointer (some ⟨gr, 0, none⟩), .int .i64 next, .int .i64 parts, .slice (some ⟨hs, 0, none⟩) n c] 144)) w3.heap.size gr base hs ⟨next, parts⟩ (ρ1.op 2 (next + 1) true 1) (zeros n) from ⟨rf_mod (S := []) H2.out (Mod.of_below hb4) (by simp), hsp.mod (S := []) (Mod.of_below hbn) (by simp), by rw [zeros_len]; exact n2, ⟨c, by rw [zeros_len]; exact blk_new w3 (.cells #[.pointer (some ⟨gr, 0, none⟩), .int .i64 next, .int .i64 parts, .slice (some ⟨hs, 0, none⟩) n c] 144)⟩, by omega, by omega, by omega⟩)
  have HM4 := Lib.hid (HM.out.trans (RMs.of_mod (Mod.of_below hb4)))
  clear hsp hb3 hbn hb4 H2 HM
  go_wp2_with fail
  go_ret2
  exact ⟨w3.heap.size, hs, rfl, H4.out, by omega, by omega, HM4.out⟩
set_option maxHeartbeats 4000000 in
set_option maxRecDepth 100000 in
theorem rn18_ok (ht : ρ.take (1 + 2 * (n : Int)) = ((next, 0), ρ1)) : Calls Tryz.prog 62 #[.pointer (some ⟨gr, 0, none⟩), .int .i64 (n : Int)] w fun e w' => ∃ gL hs, e = .returned (.tuple #[.pointer (some ⟨gL, 0, none⟩), .int .i64 0]) ∧ Mc.RLk w' gL gr base hs ⟨next⟩ (ρ1) (zeros n) ∧ w.heap.size ≤ gL ∧ w.heap.size ≤ hs ∧ RMs base [gr] w w' := by
  have HT := rtake_any gr base ρ w H (1 + 2 * (n : Int))
  have e1 : IntKind.i64.wrap (2 * (n : Int)) = 2 * (n : Int) := IntWalk.i64_in _ (by omega)
  have e2 : IntKind.i64.wrap (1 + 2 * (n : Int)) = 1 + 2 * (n : Int) := IntWalk.i64_in _ (by omega)
  rw [ht] at HT
  replace HT := Lib.hid HT
  clear H ht
  have i1 : (1 : Int) ≤ (n : Int) := by omega
  have i2 : (n : Int) ≤ 32 := by omega
  have d1 : decide ((n : Int) < 1) = false := decide_eq_false (by omega)
  have d2 : decide ((32 : Int) < n) = false := decide_eq_false (by omega)
  go_enter Tryz.func62, Tryz.ntmps62
  go_wp2_with fail
  refine HT.out.mono ?_
  rintro e w2 ⟨rfl, h2, hm2⟩
  have HM := Lib.hid (RMs.of_r (S := [gr]) hm2 (by simp))
  have hz2 := hm2.size
  have H2 := Lib.hid h2
  clear h2 hm2 HT
  go_wp2_with fail
  refine (rspots n n1 n2 _).mono ?_
  rintro e w3 ⟨hs, c, rfl, hsp, hz3, hb3⟩
  have hz := hb3.size
  have hlt := hsp.lt
  have hbn := below_new w3 (.cells #[.pointer (some ⟨gr, 0, none⟩), .int .i64 next, .slice (some ⟨hs, 0, none⟩) n c] 146)
  have hb4 := hb3.trans (hbn.mono hz)
  have H4 := Lib.hid (show Mc.RLk (w3.alloc (.cells #[.pointer (some ⟨gr, 0, none⟩), .int .i64 next, .slice (some ⟨hs, 0, none⟩) n c] 146)) w3.heap.size gr base hs ⟨next⟩ (ρ1) (zeros n) from ⟨rf_mod (S := []) H2.out (Mod.of_below hb4) (by simp), hsp.mod (S := []) (Mod.of_below hbn) (by simp), by rw [zeros_len]; exact n2, ⟨c, by rw [zeros_len]; exact blk_new w3 (.cells #[.pointer (some ⟨gr, 0, none⟩), .int .i64 next, .slice (some ⟨hs, 0, none⟩) n c] 146)⟩, by omega, by omega, by omega⟩)
  have HM4 := Lib.hid (HM.out.trans (RMs.of_mod (Mod.of_below hb4)))
  clear hsp hb3 hbn hb4 H2 HM
  go_wp2_with fail
  go_ret2
  exact ⟨w3.heap.size, hs, rfl, H4.out, by omega, by omega, HM4.out⟩
end
end Go.Proofs.YthffhhgaeolpgaaGreat

/- The document's lock of layer 19: New. -/
namespace Go.Proofs.YthffhhgaeolpgaaGreat.Cl
open Go.RowKit Go.Proofs.YthffhhgaeolpgaaGreat.Ara Go.Proofs.YthffhhgaeolpgaaGreat.Lok

theorem frame52 {a : Act} (h : a.tmps.size = 52) (hd : a.defers = []) : ∃ u : Nat → Value, a = { tmps := #[u 0, u 1, u 2, u 3, u 4, u 5, u 6, u 7, u 8, u 9, u 10, u 11, u 12, u 13, u 14, u 15, u 16, u 17, u 18, u 19, u 20, u 21, u 22, u 23, u 24, u 25, u 26, u 27, u 28, u 29, u 30, u 31, u 32, u 33, u 34, u 35, u 36, u 37, u 38, u 39, u 40, u 41, u 42, u 43, u 44, u 45, u 46, u 47, u 48, u 49, u 50, u 51], defers := [] } ∧ ∀ n, a.tmps.getD n undef = u n := by
  refine ⟨fun n => a.tmps.getD n undef, ?_, fun _ => rfl⟩
  have h1 := arr_lit a.tmps h
  cases a with
  | mk t d =>
    simp only at hd h1
    subst hd
    congr 1
def NrJ (N gr gl : Nat) (tail : Int) (w2 : World) (a : Act) (W : World) : Prop :=
  a.tmps.size = 52 ∧ a.defers = [] ∧ a.tmps.getD 0 undef = .pointer (some ⟨gr, 0, none⟩) ∧ a.tmps.getD 1 undef = .int .i64 N ∧ a.tmps.getD 6 undef = .int .i64 tail ∧ a.tmps.getD 8 undef = .pointer (some ⟨gl, 0, none⟩) ∧
    ∃ (i : Nat) (v : Value), a.tmps.getD 9 undef = .int .i64 ((i : Int) + 1) ∧ i ≤ N ∧ W.heap[gl]? = some (.cells (lkCells gr tail v) 147 (0, 0)) ∧ W.ownsRow (gl + 1) 53 4 v i ((first0 i).flatMap decSp) ∧ Below gl w2 W ∧ gl + 1 ≤ W.heap.size
set_option maxHeartbeats 4000000 in
set_option maxRecDepth 100000 in
theorem rn19_ok (gr base : Nat) (ρ ρ1 : Rf) (w : World) (H : RfAt w gr base ρ) (hgr : gr < w.heap.size) (n : Nat) (n1 : 1 ≤ n) (n2 : n ≤ 32) (next : Int) (ho : ρ1.ops < 1000000) (ht : ρ.take ((n : Int) + 2) = ((next, 0), ρ1)) :
    Calls Tryz.prog 63 #[.pointer (some ⟨gr, 0, none⟩), .int .i64 (n : Int)] w fun e w' => ∃ gL hs, e = .returned (.tuple #[.pointer (some ⟨gL, 0, none⟩), .int .i64 0]) ∧ RLk w' gL gr base hs ⟨next⟩ (ρ1.op 2 next true ((n : Int) + 1)) (first0 n) ∧ w.heap.size ≤ gL ∧ w.heap.size ≤ hs ∧ RMs base [gr] w w' := by
  have HT := rtake_any gr base ρ w H ((n : Int) + 2)
  rw [ht] at HT
  replace HT := Lib.hid HT
  clear H ht
  have i1 : (1 : Int) ≤ (n : Int) := by omega
  have i2 : (n : Int) ≤ 32 := by omega
  have d1 : decide ((n : Int) < 1) = false := decide_eq_false (by omega)
  have d2 : decide ((32 : Int) < n) = false := decide_eq_false (by omega)
  have e0 : IntKind.i64.wrap ((n : Int) + 2) = (n : Int) + 2 := IntWalk.i64_in _ (by omega)
  have HO := Lib.hid ho
  clear ho
  go_enter Tryz.func63, Tryz.ntmps63
  go_wp2_with fail
  refine HT.out.mono ?_
  rintro e w2 ⟨rfl, h2, hm2⟩
  have HM := Lib.hid (RMs.of_r (S := [gr]) hm2 (by simp))
  have hz2 := hm2.size
  have H2 := Lib.hid h2
  have hb0 := below_new w2 (.cells #[.pointer (some ⟨gr, 0, none⟩), .int .i64 next, .slice none 0 0] 147)
  have HK0 := Lib.hid (blk_new w2 (.cells #[.pointer (some ⟨gr, 0, none⟩), .int .i64 next, .slice none 0 0] 147))
  have hz0 : w2.heap.size + 1 ≤ (w2.alloc (.cells #[.pointer (some ⟨gr, 0, none⟩), .int .i64 next, .slice none 0 0] 147)).heap.size := by simp
  have HB0 := Lib.hid hb0
  clear hb0 h2 hm2 HT
  go_wp2_with fail
  generalize w2.alloc (.cells #[.pointer (some ⟨gr, 0, none⟩), .int .i64 next, .slice none 0 0] 147) = W0 at *
  generalize hgl : w2.heap.size = gl at *
  refine wp_loop (NrJ n gr gl next w2) (fun a' _ => n + 1 - (intOf (a'.tmps.getD 9 undef)).toNat) ?_ ?_
  · exact ⟨rfl, rfl, rfl, rfl, rfl, rfl, 0, .slice none 0 0, rfl, Nat.zero_le _, HK0.out, World.ownsRow_nil _ _ _ _, HB0.out, hz0⟩
  · clear HK0 HB0 hz0
    rintro a' W ⟨hsz, hdf, s0, s1, s6, s8, i, v, s9, hi, hbk, hown, hb, hz⟩
    obtain ⟨u, rfl, hu⟩ := frame52 hsz hdf
    rw [hu] at s0 s1 s6 s8 s9
    simp only [s0, s1, s6, s8, s9]
    clear hsz hdf s0 s1 s6 s8 s9 hu
    by_cases hlt : i < n
    · obtain ⟨A, c, rfl, _⟩ := own_slice hown
      have c2 := blk_cell hbk 2 (by simp [lkCells])
      have f2 := blk_free hbk 2
      simp only [lkCells, List.getElem_toArray, List.getElem_cons_zero, List.getElem_cons_succ] at c2
      have HBk := Lib.hid hbk
      have HB := Lib.hid hb
      have e1 : IntKind.i64.wrap ((i : Int) + 1) = (i : Int) + 1 := IntWalk.i64_in _ (by omega)
      have e2 : IntKind.i64.wrap ((i : Int) + 1 + 1) = (i : Int) + 1 + 1 := IntWalk.i64_in _ (by omega)
      have i3 : (i : Int) + 1 ≤ (n : Int) := by omega
      clear hbk hb
      go_wp2_with (at_builtin; refine wpList_append1 (.tmp 39) (.tmp 42) 50 53 _ 4 32 rfl rfl Tryz.underlying50 infoSp rfl (by decide) (gl + 1) _ _ _ _ _ _ _ _ hown rfl rfl ?cg rfl ?d1 ?d2 ?d3 ?d4 ?ck; case' ck => intro v' w3 hown3 hb3 _; have q6 := (hb3.cell (p := ⟨gl, 2, none⟩) (Nat.lt_succ_self gl)).trans c2; have r6 := (hb3.frozen (p := ⟨gl, 2, none⟩) (Nat.lt_succ_self gl)).trans f2; obtain ⟨A3, c3, rfl, _, _, _⟩ := own_slice hown3)
      case cg => first | rfl | simp
      case d1 => simp [Value.oneCell']
      case d2 => simp only [maxLen]; omega
      case d3 => omega
      try (case d4 => exact hz)
      have hbk2 := blk_set ((hb3.block gl (Nat.lt_succ_self gl)).trans HBk.out) 2 (.slice A3 (i + 1) c3)
      have hown4 : (w3.setCell ⟨gl, 2, none⟩ (.slice A3 (i + 1) c3)).ownsRow (gl + 1) 53 4 (.slice A3 (i + 1) c3) (i + 1) ((first0 (i + 1)).flatMap decSp) := by
        have := ownsRow_setCell_below hown3 (a := ⟨gl, 2, none⟩) (Nat.lt_succ_self gl) (.slice A3 (i + 1) c3)
        rw [first0_succ, List.flatMap_append]
        simpa [decSp] using this
      have hbb : Below gl w2 (w3.setCell ⟨gl, 2, none⟩ (.slice A3 (i + 1) c3)) := (HB.out.trans (hb3.mono (Nat.le_succ gl))).setCell (Nat.le_refl _) _
      have hzz : gl + 1 ≤ (w3.setCell ⟨gl, 2, none⟩ (.slice A3 (i + 1) c3)).heap.size := by have := hb3.size; simp [World.setCell]; omega
      exact ⟨⟨rfl, rfl, rfl, rfl, rfl, rfl, i + 1, _, by rfl, hlt, hbk2, hown4, hbb, hzz⟩, by simp [intOf]; omega⟩
    · obtain rfl : i = n := by omega
      have i3 : ¬ (i : Int) + 1 ≤ (i : Int) := by omega
      rcases hown.2 with ⟨_, h0⟩ | ⟨g, cc, cur, rfl, hg, hgb, _, _, _, htk⟩
      · omega
      · have hm0 : Mod [] w2 W := Mod.of_below (by rw [hgl]; exact hb)
        have hgw : gr < gl := by omega
        have hK : RLk W gl gr base g ⟨next⟩ ρ1 (first0 i) := by
          refine ⟨rf_mod (S := []) H2.out hm0 (by simp), ⟨cur, hgb, by rw [first0_len]; exact htk⟩, by rw [first0_len]; exact n2, ⟨cc, by rw [first0_len]; exact hbk⟩, by omega, by omega, by omega⟩
        have HK := Lib.hid hK
        have HM2 := Lib.hid (HM.out.trans (RMs.of_mod (S := [gr]) (hm0.sub (by simp))))
        have e1 : IntKind.i64.wrap ((i : Int) + 1) = (i : Int) + 1 := IntWalk.i64_in _ (by omega)
        clear hown hbk hb hgb htk hK hm0 HM H2
        go_wp2_with fail
        refine (rstore_any gr base ρ1 _ HK.out.1 next HO.out ((i : Int) + 1)).mono ?_
        rintro e w5 ⟨rfl, h5, hm5⟩
        have hK5 := Lib.hid (HK.out.arena h5 hm5)
        have hm6 := Lib.hid (HM2.out.trans (RMs.of_r hm5 (by simp)))
        clear h5 hm5
        go_wp2_with fail
        go_ret2
        exact ⟨gl, g, rfl, hK5.out, by omega, by omega, hm6.out⟩
end Go.Proofs.YthffhhgaeolpgaaGreat.Cl

/- Package flat: a lock that nobody made; a lock over a word that is taken; how many words a lock takes. -/
namespace Go.Proofs.YthffhhgaeolpgaaGreat.Fl
open Go.RowKit Go.Proofs.YthffhhgaeolpgaaGreat.Ara Go.Proofs.YthffhhgaeolpgaaGreat.Lok

theorem sfld0 (a b c d : Int) (W : World) : (Instr.field 53 (.agg #[.int .i64 a, .int .i64 b, .int .i64 c, .int .i64 d]) 0).run Tryz.prog W = .ok (.int .i64 a) W := by
  simp [Instr.field, run_underlying Tryz.underlying53, asAgg, go_sem]
def NoneAt (W : World) (q : Option Addr) : Prop := q = none ∨ ∃ g, q = some ⟨g, 0, none⟩ ∧ W.cell? ⟨g, 0, none⟩ = some (.int .i64 0)
theorem NoneAt.same {W W' : World} {q : Option Addr} (h : NoneAt W q) (hb : Below W.heap.size W W') : NoneAt W' q := by
  rcases h with h | ⟨g, h1, h2⟩
  · exact .inl h
  · exact .inr ⟨g, h1, keep1 hb h2⟩
section
variable (q : Option Addr) (w : World) (H : NoneAt w q)
include H
theorem made_none : Calls Tryz.prog 69 #[.pointer q] w fun e w' => e = .returned (.bool false) ∧ w' = w := by
  rcases H with rfl | ⟨g, rfl, hc⟩
  · go_enter Tryz.func69, Tryz.ntmps69
    go_wp2_with fail
    go_ret
    exact ⟨rfl, rfl⟩
  · go_enter Tryz.func69, Tryz.ntmps69
    go_wp2_with fail
    go_ret
    exact ⟨rfl, rfl⟩
theorem kind_none : Calls Tryz.prog 27 #[.pointer q] w fun e w' => e = .returned (.int .i64 0) ∧ w' = w := by
  have HM := Lib.hid (made_none q w H)
  clear H
  go_enter Tryz.func27, Tryz.ntmps27
  go_wp2_with fail
  refine (HM.out).mono ?_
  rintro e wx ⟨rfl, hwx⟩
  obtain rfl := hwx.symm
  go_wp2_with fail
  go_ret
  exact ⟨rfl, rfl⟩
theorem slots_none : Calls Tryz.prog 26 #[.pointer q] w fun e w' => e = .returned (.int .i64 0) ∧ w' = w := by
  have HM := Lib.hid (made_none q w H)
  clear H
  go_enter Tryz.func26, Tryz.ntmps26
  go_wp2_with fail
  refine (HM.out).mono ?_
  rintro e wx ⟨rfl, hwx⟩
  obtain rfl := hwx.symm
  go_wp2_with fail
  go_ret
  exact ⟨rfl, rfl⟩
theorem Ask_none (i : Int) : Calls Tryz.prog 50 #[.pointer q, .int .i64 i] w fun e w' => e = .returned (.bool false) ∧ w' = w := by
  have HM := Lib.hid (made_none q w H)
  clear H
  go_enter Tryz.func50, Tryz.ntmps50
  go_wp2_with fail
  refine (HM.out).mono ?_
  rintro e wx ⟨rfl, hwx⟩
  obtain rfl := hwx.symm
  go_wp2_with fail
  go_ret
  exact ⟨rfl, rfl⟩
theorem Leave_none (i : Int) : Calls Tryz.prog 53 #[.pointer q, .int .i64 i] w fun e w' => e = .returned (.bool false) ∧ w' = w := by
  have HM := Lib.hid (made_none q w H)
  clear H
  go_enter Tryz.func53, Tryz.ntmps53
  go_wp2_with fail
  refine (HM.out).mono ?_
  rintro e wx ⟨rfl, hwx⟩
  obtain rfl := hwx.symm
  go_wp2_with fail
  go_ret
  exact ⟨rfl, rfl⟩
theorem Step_none (i : Int) : Calls Tryz.prog 52 #[.pointer q, .int .i64 i] w fun e w' => e = .returned (.bool false) ∧ w' = w := by
  have HM := Lib.hid (made_none q w H)
  clear H
  go_enter Tryz.func52, Tryz.ntmps52
  go_wp2_with fail
  refine (HM.out).mono ?_
  rintro e wx ⟨rfl, hwx⟩
  obtain rfl := hwx.symm
  go_wp2_with fail
  go_ret
  exact ⟨rfl, rfl⟩
theorem Alone_none (i : Int) : Calls Tryz.prog 51 #[.pointer q, .int .i64 i] w fun e w' => e = .returned (.bool false) ∧ w' = w := by
  have HM := Lib.hid (made_none q w H)
  clear H
  go_enter Tryz.func51, Tryz.ntmps51
  go_wp2_with fail
  refine (HM.out).mono ?_
  rintro e wx ⟨rfl, hwx⟩
  obtain rfl := hwx.symm
  go_wp2_with fail
  go_ret
  exact ⟨rfl, rfl⟩
theorem Spot_none (i : Int) : Calls Tryz.prog 24 #[.pointer q, .int .i64 i] w fun e w' => e = .returned (.agg #[.int .i64 0, .int .i64 0, .int .i64 0, .int .i64 0]) ∧ Below w.heap.size w w' := by
  have HM := Lib.hid (made_none q _ (H.same (below_new w (.cells #[.int .i64 0, .int .i64 0, .int .i64 0, .int .i64 0] 53))))
  clear H
  go_enter Tryz.func24, Tryz.ntmps24
  go_wp2_with fail
  refine (HM.out).mono ?_
  rintro e wx ⟨rfl, hwx⟩
  obtain rfl := hwx.symm
  go_wp2_with fail
  exact bodyPost_ret (v := .agg #[.int .i64 0, .int .i64 0, .int .i64 0, .int .i64 0]) (by simp [results, Tryz.results24, go_sem]) rfl ⟨rfl, by first | exact below_new _ _ | exact (Below.refl _ _).alloc (Nat.le_refl _) _⟩
end
def FlB (W : World) (gf : Nat) (kind : Int) (T : TypeId) (v : Value) : Prop := W.heap[gf]? = some (.cells #[.int .i64 kind, .iface T v] 115 (0, 0))
section
variable (gf : Nat) (kind : Int) (T : TypeId) (v : Value) (w : World) (H : FlB w gf kind T v) (hk : kind ≠ 0)
include H hk
theorem made_yes : Calls Tryz.prog 69 #[.pointer (some ⟨gf, 0, none⟩)] w fun e w' => e = .returned (.bool true) ∧ w' = w := by
  have c0 := blk_cell H 0 (by simp)
  simp only [List.getElem_toArray, List.getElem_cons_zero] at c0
  have e1 := ibne hk
  clear H hk
  go_enter Tryz.func69, Tryz.ntmps69
  go_wp2_with fail
  go_ret
  exact ⟨rfl, rfl⟩
theorem kind_yes : Calls Tryz.prog 27 #[.pointer (some ⟨gf, 0, none⟩)] w fun e w' => e = .returned (.int .i64 kind) ∧ w' = w := by
  have HM := Lib.hid (made_yes gf kind T v w H hk)
  have c0 := blk_cell H 0 (by simp)
  simp only [List.getElem_toArray, List.getElem_cons_zero] at c0
  clear H hk
  go_enter Tryz.func27, Tryz.ntmps27
  go_wp2_with fail
  refine (HM.out).mono ?_
  rintro e wx ⟨rfl, hwx⟩
  obtain rfl := hwx.symm
  go_wp2_with fail
  go_ret
  exact ⟨rfl, rfl⟩
end
def tasV (gl : Nat) : Value := .agg #[.pointer (some ⟨gl, 0, none⟩)]
theorem m_Ask (gl : Nat) (w : World) : (method 96 101 (.agg #[.pointer (some ⟨gl, 0, none⟩)]) "Ask").run Tryz.prog w = .ok (140, .pointer (some ⟨gl, 0, none⟩)) w := by kernel_rfl
theorem m_Leave (gl : Nat) (w : World) : (method 96 101 (.agg #[.pointer (some ⟨gl, 0, none⟩)]) "Leave").run Tryz.prog w = .ok (141, .pointer (some ⟨gl, 0, none⟩)) w := by kernel_rfl
theorem m_Step (gl : Nat) (w : World) : (method 96 101 (.agg #[.pointer (some ⟨gl, 0, none⟩)]) "Step").run Tryz.prog w = .ok (144, .pointer (some ⟨gl, 0, none⟩)) w := by kernel_rfl
theorem m_Slots (gl : Nat) (w : World) : (method 96 101 (.agg #[.pointer (some ⟨gl, 0, none⟩)]) "Slots").run Tryz.prog w = .ok (142, .pointer (some ⟨gl, 0, none⟩)) w := by kernel_rfl
theorem m_Spot (gl : Nat) (w : World) : (method 96 101 (.agg #[.pointer (some ⟨gl, 0, none⟩)]) "Spot").run Tryz.prog w = .ok (143, .pointer (some ⟨gl, 0, none⟩)) w := by kernel_rfl
theorem m_Alone (gl : Nat) (w : World) : (method 96 101 (.agg #[.pointer (some ⟨gl, 0, none⟩)]) "Alone").run Tryz.prog w = .ok (149, .agg #[.pointer (some ⟨gl, 0, none⟩)]) w := by kernel_rfl
section
variable (gf gl : Nat) (w : World) (H : FlB w gf 1 101 (.agg #[.pointer (some ⟨gl, 0, none⟩)]))
include H
set_option maxRecDepth 100000 in
theorem Ask_fl (i : Int) (b : Bool) (R : World → Prop) (HC : Calls Tryz.prog 140 #[.pointer (some ⟨gl, 0, none⟩), .int .i64 i] w fun e w' => e = .returned (.bool b) ∧ R w') : Calls Tryz.prog 50 #[.pointer (some ⟨gf, 0, none⟩), .int .i64 i] w fun e w' => e = .returned (.bool b) ∧ R w' := by
  have hm := fun w => m_Ask gl w
  have HM := Lib.hid (made_yes gf 1 _ _ w H (by decide))
  have c1 := blk_cell H 1 (by simp)
  simp only [List.getElem_toArray, List.getElem_cons_succ, List.getElem_cons_zero] at c1
  replace HC := Lib.hid HC
  clear H
  go_enter Tryz.func50, Tryz.ntmps50
  go_wp2_with fail
  refine (HM.out).mono ?_
  rintro e wx ⟨rfl, hwx⟩
  obtain rfl := hwx.symm
  go_wp2_with fail
  refine HC.out.mono ?_
  rintro e w2 ⟨rfl, h2⟩
  replace h2 := Lib.hid h2
  go_wp2_with fail
  go_ret
  exact ⟨rfl, h2.out⟩
set_option maxRecDepth 100000 in
theorem Leave_fl (i : Int) (b : Bool) (R : World → Prop) (HC : Calls Tryz.prog 141 #[.pointer (some ⟨gl, 0, none⟩), .int .i64 i] w fun e w' => e = .returned (.bool b) ∧ R w') : Calls Tryz.prog 53 #[.pointer (some ⟨gf, 0, none⟩), .int .i64 i] w fun e w' => e = .returned (.bool b) ∧ R w' := by
  have hm := fun w => m_Leave gl w
  have HM := Lib.hid (made_yes gf 1 _ _ w H (by decide))
  have c1 := blk_cell H 1 (by simp)
  simp only [List.getElem_toArray, List.getElem_cons_succ, List.getElem_cons_zero] at c1
  replace HC := Lib.hid HC
  clear H
  go_enter Tryz.func53, Tryz.ntmps53
  go_wp2_with fail
  refine (HM.out).mono ?_
  rintro e wx ⟨rfl, hwx⟩
  obtain rfl := hwx.symm
  go_wp2_with fail
  refine HC.out.mono ?_
  rintro e w2 ⟨rfl, h2⟩
  replace h2 := Lib.hid h2
  go_wp2_with fail
  go_ret
  exact ⟨rfl, h2.out⟩
set_option maxRecDepth 100000 in
theorem Step_fl (i : Int) (b : Bool) (R : World → Prop) (HC : Calls Tryz.prog 144 #[.pointer (some ⟨gl, 0, none⟩), .int .i64 i] w fun e w' => e = .returned (.bool b) ∧ R w') : Calls Tryz.prog 52 #[.pointer (some ⟨gf, 0, none⟩), .int .i64 i] w fun e w' => e = .returned (.bool b) ∧ R w' := by
  have hm := fun w => m_Step gl w
  have HM := Lib.hid (made_yes gf 1 _ _ w H (by decide))
  have c1 := blk_cell H 1 (by simp)
  simp only [List.getElem_toArray, List.getElem_cons_succ, List.getElem_cons_zero] at c1
  replace HC := Lib.hid HC
  clear H
  go_enter Tryz.func52, Tryz.ntmps52
  go_wp2_with fail
  refine (HM.out).mono ?_
  rintro e wx ⟨rfl, hwx⟩
  obtain rfl := hwx.symm
  go_wp2_with fail
  refine HC.out.mono ?_
  rintro e w2 ⟨rfl, h2⟩
  replace h2 := Lib.hid h2
  go_wp2_with fail
  go_ret
  exact ⟨rfl, h2.out⟩
end
end Go.Proofs.YthffhhgaeolpgaaGreat.Fl

/- Package flat: a lock over a word that is taken, whole; Size; Door. -/
namespace Go.Proofs.YthffhhgaeolpgaaGreat.Fl
open Go.RowKit Go.Proofs.YthffhhgaeolpgaaGreat.Ara Go.Proofs.YthffhhgaeolpgaaGreat.Lok

section
variable (gf gl ga ha hs : Nat) (P : Ta.Par) (σ : Ar) (sp : List Sp) (w : World) (H : FlB w gf 1 101 (.agg #[.pointer (some ⟨gl, 0, none⟩)])) (K : Ta.LkAt w gl ga ha hs P σ sp)
theorem FlB.same {W W' : World} {gf : Nat} {kind : Int} {T : TypeId} {v : Value} (h : FlB W gf kind T v) (hb : Below W.heap.size W W') : FlB W' gf kind T v := (Mod.of_below (S := []) hb).blk h (by simp)
theorem FlB.mod {S : List Nat} {W W' : World} {gf : Nat} {kind : Int} {T : TypeId} {v : Value} (h : FlB W gf kind T v) (hm : Mod S W W') (hn : gf ∉ S) : FlB W' gf kind T v := hm.blk h hn
include K in
theorem lone_alone (i : Int) (b : Bool) (hb : ((spOf sp i).pc == 10) = b) : Calls Tryz.prog 149 #[.agg #[.pointer (some ⟨gl, 0, none⟩)], .int .i64 i] w fun e w' => e = .returned (.bool b) ∧ Below w.heap.size w w' := by
  have hbn := below_new w (.cells #[.pointer (some ⟨gl, 0, none⟩)] 101)
  have c0 := blk_cell (blk_new w (.cells #[.pointer (some ⟨gl, 0, none⟩)] 101)) 0 (by simp)
  simp only [List.getElem_toArray, List.getElem_cons_zero] at c0
  have HSp := Ta.Spot_lk gl ga ha hs P σ sp _ (K.same hbn) i
  generalize spOf sp i = s at *
  obtain ⟨xp, xa, xb, xc⟩ := s
  replace HSp := Lib.hid HSp
  have q1 := fun a b c d W => sfld0 a b c d W
  have e9 : ((xp == 10) : Bool) = b := hb
  clear K hb
  by_cases hp : xp = 10
  · subst hp
    obtain rfl : true = b := e9
    go_enter Tryz.func149, Tryz.ntmps149
    go_wp2_with fail
    refine HSp.out.mono ?_
    rintro e w2 ⟨rfl, hb2⟩
    go_wp2_with fail
    go_ret
    exact ⟨rfl, hbn.trans (hb2.mono hbn.size)⟩
  · have e8 := ibeq_no hp
    obtain rfl : false = b := by rw [← e9]; simpa using hp
    go_enter Tryz.func149, Tryz.ntmps149
    go_wp2_with fail
    refine HSp.out.mono ?_
    rintro e w2 ⟨rfl, hb2⟩
    go_wp2_with fail
    go_ret
    exact ⟨rfl, hbn.trans (hb2.mono hbn.size)⟩
include H K
set_option maxRecDepth 100000 in
theorem Alone_fl (i : Int) (b : Bool) (hb : ((spOf sp i).pc == 10) = b) : Calls Tryz.prog 51 #[.pointer (some ⟨gf, 0, none⟩), .int .i64 i] w fun e w' => e = .returned (.bool b) ∧ Below w.heap.size w w' := by
  have hm := fun w => m_Alone gl w
  have HM := Lib.hid (made_yes gf 1 _ _ w H (by decide))
  have c1 := blk_cell H 1 (by simp)
  simp only [List.getElem_toArray, List.getElem_cons_succ, List.getElem_cons_zero] at c1
  have HC := Lib.hid (lone_alone gl ga ha hs P σ sp w K i b hb)
  clear H K hb
  go_enter Tryz.func51, Tryz.ntmps51
  go_wp2_with fail
  refine (HM.out).mono ?_
  rintro e wx ⟨rfl, hwx⟩
  obtain rfl := hwx.symm
  go_wp2_with fail
  refine HC.out.mono ?_
  rintro e w2 ⟨rfl, hb2⟩
  go_wp2_with fail
  go_ret
  exact ⟨rfl, hb2⟩
set_option maxRecDepth 100000 in
theorem Slots_fl : Calls Tryz.prog 26 #[.pointer (some ⟨gf, 0, none⟩)] w fun e w' => e = .returned (.int .i64 sp.length) ∧ w' = w := by
  have hm := fun w => m_Slots gl w
  have HM := Lib.hid (made_yes gf 1 _ _ w H (by decide))
  have c1 := blk_cell H 1 (by simp)
  simp only [List.getElem_toArray, List.getElem_cons_succ, List.getElem_cons_zero] at c1
  have HC := Lib.hid (Ta.slots_lk gl ga ha hs P σ sp w K)
  clear H K
  go_enter Tryz.func26, Tryz.ntmps26
  go_wp2_with fail
  refine (HM.out).mono ?_
  rintro e wx ⟨rfl, hwx⟩
  obtain rfl := hwx.symm
  go_wp2_with fail
  refine (HC.out).mono ?_
  rintro e wx ⟨rfl, hwx⟩
  obtain rfl := hwx.symm
  go_wp2_with fail
  go_ret
  exact ⟨rfl, rfl⟩
set_option maxRecDepth 100000 in
theorem Spot_fl (i xp xa xb xc : Int) (hx : spOf sp i = ⟨xp, xa, xb, xc⟩) : Calls Tryz.prog 24 #[.pointer (some ⟨gf, 0, none⟩), .int .i64 i] w fun e w' => e = .returned (.agg #[.int .i64 xp, .int .i64 xa, .int .i64 xb, .int .i64 xc]) ∧ Below w.heap.size w w' := by
  have hm := fun w => m_Spot gl w
  have hbn := below_new w (.cells #[.int .i64 0, .int .i64 0, .int .i64 0, .int .i64 0] 53)
  have H1 := H.same hbn
  have HM := Lib.hid (made_yes gf 1 _ _ _ H1 (by decide))
  have c1 := blk_cell H1 1 (by simp)
  simp only [List.getElem_toArray, List.getElem_cons_succ, List.getElem_cons_zero] at c1
  have hbk := blk_new w (.cells #[.int .i64 0, .int .i64 0, .int .i64 0, .int .i64 0] 53)
  have hz : w.heap.size < (w.alloc (.cells #[.int .i64 0, .int .i64 0, .int .i64 0, .int .i64 0] 53)).heap.size := by simp
  have HC := Ta.Spot_lk gl ga ha hs P σ sp _ (K.same hbn) i
  rw [hx] at HC
  replace HC := Lib.hid HC
  have HB := Lib.hid hbk
  clear H K hx H1 hbk
  go_enter Tryz.func24, Tryz.ntmps24
  go_wp2_with fail
  refine (HM.out).mono ?_
  rintro e wx ⟨rfl, hwx⟩
  obtain rfl := hwx.symm
  go_wp2_with fail
  refine HC.out.mono ?_
  rintro e w2 ⟨rfl, hb2⟩
  have hbk2 := (Mod.of_below (S := []) hb2).blk HB.out (by simp)
  have d0 := blk_cell hbk2 0 (by simp)
  have d1 := blk_cell hbk2 1 (by simp)
  have d2 := blk_cell hbk2 2 (by simp)
  have d3 := blk_cell hbk2 3 (by simp)
  have f0 := blk_free hbk2 0
  have f1 := blk_free hbk2 1
  have f2 := blk_free hbk2 2
  have f3 := blk_free hbk2 3
  simp only [List.getElem_toArray, List.getElem_cons_zero, List.getElem_cons_succ] at d0 d1 d2 d3
  have hB := Lib.hid (hbn.trans (hb2.mono hbn.size))
  have k0 := blk_set hbk2 0 (.int .i64 xp)
  have k1 := blk_set k0 1 (.int .i64 xa)
  have k2 := blk_set k1 2 (.int .i64 xb)
  have k3 := blk_set k2 3 (.int .i64 xc)
  have g0 := blk_cell k0 0 (by simp)
  have g1 := blk_cell k1 1 (by simp)
  have g2 := blk_cell k2 2 (by simp)
  have g3 := blk_cell k3 3 (by simp)
  simp at g0 g1 g2 g3
  clear hbk2 hb2 k0 k1 k2 k3
  go_wp2_with fail
  exact bodyPost_ret (v := .agg #[.int .i64 xp, .int .i64 xa, .int .i64 xb, .int .i64 xc]) (by simp [results, Tryz.results24, go_sem, g0, g1, g2, g3]) rfl ⟨rfl, by first | exact hB.out | exact (((((hB.out.setCell (Nat.le_refl _) _).setCell (Nat.le_refl _) _).setCell (Nat.le_refl _) _).setCell (Nat.le_refl _) _))⟩
end
set_option maxRecDepth 100000 in
theorem new_tas (ga ha : Nat) (σ σ1 : Ar) (w : World) (H : ArAt w ga ha σ) (hh : ha < w.heap.size) (n : Nat) (n1 : 1 ≤ n) (n2 : n ≤ 32) (most : Int) (m1 : 1 ≤ most) (m2 : most ≤ 1024) (next : Int) (ht : σ.take 1 = ((next, 0), σ1)) :
    Calls Tryz.prog 12 #[.pointer (some ⟨ga, 0, none⟩), .int .i64 1, .int .i64 (n : Int), .int .i64 most] w fun e w' => ∃ gf gl hs, e = .returned (.tuple #[.pointer (some ⟨gf, 0, none⟩), .int .i64 0]) ∧ FlB w' gf 1 101 (.agg #[.pointer (some ⟨gl, 0, none⟩)]) ∧ Ta.LkAt w' gl ga ha hs ⟨next, most⟩ σ1 (Ta.zeroS n) ∧ (w.heap.size ≤ gf ∧ w.heap.size ≤ gl ∧ w.heap.size ≤ hs ∧ gf ≠ hs) ∧ Mod [ga, ha] w w' := by
  have HN := Lib.hid (Ta.new_lk ga ha σ σ1 w H hh n n1 n2 most m1 m2 next ht)
  clear H ht
  go_enter Tryz.func12, Tryz.ntmps12
  go_wp2_with fail
  refine HN.out.mono ?_
  rintro e w2 ⟨gl, hs, rfl, hk, hgl, hhs, hm⟩
  have hbn := below_new w2 (.cells #[.int .i64 1, .iface 101 (.agg #[.pointer (some ⟨gl, 0, none⟩)])] 115)
  have HB := Lib.hid (blk_new w2 (.cells #[.int .i64 1, .iface 101 (.agg #[.pointer (some ⟨gl, 0, none⟩)])] 115))
  have hz := hm.size
  have hlt := hk.2.1.lt
  have HK := Lib.hid (hk.same hbn)
  have hmm := hm.alloc (.cells #[.int .i64 1, .iface 101 (.agg #[.pointer (some ⟨gl, 0, none⟩)])] 115)
  clear hk hm hbn
  go_wp2_with fail
  go_ret2
  exact ⟨w2.heap.size, gl, hs, rfl, HB.out, HK.out, by omega, hmm⟩
theorem new_kind (q : Option Addr) (w : World) : Calls Tryz.prog 12 #[.pointer q, .int .i64 6, .int .i64 2, .int .i64 4] w fun e w' => e = .returned (.tuple #[.pointer none, .int .i64 7]) ∧ w' = w := by
  go_enter Tryz.func12, Tryz.ntmps12
  go_wp2_with fail
  go_ret2
  exact ⟨rfl, by trivial⟩
theorem may_0 (w : World) : Calls Tryz.prog 82 #[.int .i64 0] w fun e w' => e = .returned (.bool false) ∧ w' = w := by
  go_enter Tryz.func82, Tryz.ntmps82
  go_wp2_with fail
  go_ret
  exact ⟨rfl, rfl⟩
theorem new_par0 (q : Option Addr) (w : World) : Calls Tryz.prog 56 #[.pointer q, .int .i64 3, .int .i64 0] w fun e w' => e = .returned (.tuple #[.pointer none, .int .i64 1]) ∧ w' = w := by
  go_enter Tryz.func56, Tryz.ntmps56
  go_wp2_with fail
  refine (Pt.may_yes 3 _ (by omega) (by omega)).mono ?_
  rintro e wx ⟨rfl, hwx⟩
  obtain rfl := hwx.symm
  go_wp2_with fail
  refine (may_0 _).mono ?_
  rintro e wx ⟨rfl, hwx⟩
  obtain rfl := hwx.symm
  go_wp2_with fail
  go_ret2
  exact ⟨rfl, by trivial⟩
theorem new_fpar0 (q : Option Addr) (w : World) : Calls Tryz.prog 12 #[.pointer q, .int .i64 3, .int .i64 3, .int .i64 0] w fun e w' => e = .returned (.tuple #[.pointer none, .int .i64 1]) ∧ w' = w := by
  go_enter Tryz.func12, Tryz.ntmps12
  go_wp2_with fail
  refine (new_par0 _ _).mono ?_
  rintro e wx ⟨rfl, hwx⟩
  obtain rfl := hwx.symm
  go_wp2_with fail
  go_ret2
  exact ⟨rfl, by trivial⟩
set_option maxRecDepth 100000 in
theorem new_fmcs (ga ha : Nat) (σ σ1 : Ar) (w : World) (H : ArAt w ga ha σ) (hh : ha < w.heap.size) (ht : σ.take (1 + 2 * ((3 : Nat) : Int)) = ((1, 0), σ1)) (ho : σ1.ops ≤ 1000000) :
    Calls Tryz.prog 12 #[.pointer (some ⟨ga, 0, none⟩), .int .i64 4, .int .i64 3, .int .i64 0] w fun e w' => ∃ gf, e = .returned (.tuple #[.pointer (some ⟨gf, 0, none⟩), .int .i64 0]) ∧ ArAt w' ga ha σ1 ∧ Mod [ga, ha] w w' := by
  have HN : Calls Tryz.prog 57 #[.pointer (some ⟨ga, 0, none⟩), .int .i64 3] w _ := Mc.new_lk ga ha σ σ1 w H hh 3 (by omega) (by omega) 1 (by omega) (by omega) ht ho
  replace HN := Lib.hid HN
  clear H ht
  go_enter Tryz.func12, Tryz.ntmps12
  go_wp2_with fail
  refine HN.out.mono ?_
  rintro e w2 ⟨gl, hs, rfl, hk, _, _, hm⟩
  have HA := Lib.hid (hk.1.step (below_new w2 (.cells #[.int .i64 4, .iface 108 (.pointer (some ⟨gl, 0, none⟩))] 115)))
  have hmm := hm.alloc (.cells #[.int .i64 4, .iface 108 (.pointer (some ⟨gl, 0, none⟩))] 115)
  clear hk hm
  go_wp2_with fail
  go_ret2
  exact ⟨_, rfl, HA.out, hmm⟩
theorem take4096 : (Ar.fresh (room 4096)).take (1 + 2 * ((3 : Nat) : Int)) = ((1, 0), ⟨zerosW 4096, 7, 0, 0, 0, false⟩) := by
  have hr : room 4096 = 4096 := by unfold room; rw [if_neg (by omega), if_neg (by omega)]; rfl
  rw [hr]
  have hl : (zerosW 4096).length = 4096 := List.length_replicate
  unfold Ar.take Ar.fresh
  rw [if_neg (by decide), if_neg (by simp only [hl]; omega)]
  rfl
theorem size_mcs (w : World) : Calls Tryz.prog 14 #[.int .i64 4, .int .i64 3, .int .i64 0] w fun e w' => e = .returned (.int .i64 7) ∧ Below w.heap.size w w' := by
  go_enter Tryz.func14, Tryz.ntmps14
  go_wp2_with fail
  refine (new_at 4096 _ _ rfl).mono ?_
  rintro e w1 ⟨rfl, hat⟩
  have HN := Lib.hid (new_fmcs (w.heap.size + 1) w.heap.size _ _ w1 hat.1 (by have := hat.2.1; omega) take4096 (by show 0 ≤ _; omega))
  have HB := Lib.hid hat.2.2
  have hz := hat.2.1
  clear hat
  go_wp2_with fail
  refine HN.out.mono ?_
  rintro e w2 ⟨gf, rfl, ha, hm⟩
  have HL := Lib.hid (show Calls Tryz.prog 28 #[.pointer (some ⟨w.heap.size + 1, 0, none⟩)] w2 fun e w' => e = .returned (.int .i64 7) ∧ w' = w2 from len_any _ _ _ _ ha)
  have hB := HB.out.trans (hm.below (by omega) (by simp))
  clear ha hm HN
  go_wp2_with fail
  refine (HL.out).mono ?_
  rintro e wx ⟨rfl, hwx⟩
  obtain rfl := hwx.symm
  go_wp2_with fail
  go_ret
  exact ⟨rfl, hB⟩
theorem size_par (w : World) : Calls Tryz.prog 14 #[.int .i64 3, .int .i64 3, .int .i64 0] w fun e w' => e = .returned (.int .i64 0) ∧ Below w.heap.size w w' := by
  go_enter Tryz.func14, Tryz.ntmps14
  go_wp2_with fail
  refine (new_at 4096 _ _ rfl).mono ?_
  rintro e w1 ⟨rfl, hat⟩
  have HB := Lib.hid hat.2.2
  clear hat
  go_wp2_with fail
  refine (new_fpar0 _ _).mono ?_
  rintro e wx ⟨rfl, hwx⟩
  obtain rfl := hwx.symm
  go_wp2_with fail
  go_ret
  exact ⟨rfl, HB.out⟩
theorem door_clh (w : World) : Calls Tryz.prog 16 #[.int .i64 5] w fun e w' => e = .returned (.int .i64 2) ∧ w' = w := by
  go_enter Tryz.func16, Tryz.ntmps16
  go_wp2_with fail
  go_ret
  exact ⟨rfl, rfl⟩
end Go.Proofs.YthffhhgaeolpgaaGreat.Fl

/- Package ticket: what its laws ask of it. -/
namespace Go.Proofs.YthffhhgaeolpgaaGreat.Tk
open Go.RowKit Go.Proofs.YthffhhgaeolpgaaGreat.Ara Go.Proofs.YthffhhgaeolpgaaGreat.Lok

theorem Inv.num {P : Par} {σ : Ar} {sp : List Sp} {S T : Nat} (h : Inv P σ sp S T) (hT : T ≤ 1000000) (ho : σ.ops ≤ 1000000) (hn : P.next ≤ 4096) : Num P σ sp := by
  refine ⟨⟨h.n1, hn⟩, fun k hk => ?_, ho, h.hasN, ?_, ?_⟩
  · have := h.rng k
    rw [spOf_in hk] at this
    omega
  · rw [h.gT]; omega
  · rw [h.gT]; omega
structure OkP (P : Par) (σ : Ar) (sp : List Sp) (n m : Nat) : Prop where
  inv : ∃ S T, Inv P σ sp S T ∧ T ≤ m
  ops : σ.ops ≤ m + 1
  nx : P.next ≤ 4096
  len : sp.length = n
section
variable {P : Par} {σ : Ar} {sp : List Sp} {n m : Nat} (h : OkP P σ sp n m)
include h
theorem OkP.act (kd i : Int) : OkP P (doP P σ sp kd i).2.1 (doP P σ sp kd i).2.2 n (m + 1) := by
  obtain ⟨S, T, hi, hT⟩ := h.inv
  obtain ⟨S', T', hT', hi'⟩ := do_inv hi kd i
  exact ⟨⟨S', T', hi', by omega⟩, by have := do_ops P σ sp kd i; have := h.ops; omega, h.nx, (do_len P σ sp kd i).trans h.len⟩
theorem OkP.num (hm : m ≤ 100000) : Num P σ sp := by
  obtain ⟨S, T, hi, hT⟩ := h.inv
  exact hi.num (by omega) (by have := h.ops; omega) h.nx
theorem OkP.one : cnt (fun s => s.pc == 10) sp n ≤ 1 := by
  obtain ⟨S, T, hi, hT⟩ := h.inv
  exact hi.one n
end
def first1 (n : Nat) : Ar × List Sp := ((⟨zerosW 100, 2, 0, 0, 0, false⟩ : Ar), Ta.zeroS n)
theorem OkP.first (n : Nat) : OkP ⟨1⟩ (first1 n).1 (first1 n).2 n 0 :=
  ⟨⟨0, 0, inv_start n, Nat.le_refl _⟩, by show 0 ≤ 0 + 1; omega, by show (1 : Int) ≤ 4096; decide, by simp [first1, Ta.zeroS]⟩
theorem ord_first (n : Nat) : OrdP ⟨1⟩ ⟨(first1 n).1, (first1 n).2, [], []⟩ := ord_start n
end Go.Proofs.YthffhhgaeolpgaaGreat.Tk

