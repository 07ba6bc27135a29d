/- The law of layer 22: SpanSays. -/
import Derived.Test.YtdkggdfofmgdlaaSp16
import Derived.Lib.QuietBelow
namespace Go.Proofs.Ytdkggdfofmgdlaa.Sp
open Go.RowKit Go.Sort
def okE (e : E) : Prop := isI64 e.kind ∧ isI64 e.th ∧ isI64 e.ct
theorem reads_ev {H : Type} {enc : TypeId × Value → H} : Reads enc Try.prog 31 dE okE :=
  (reads_s4 (d0 := Value.int .i64) (d1 := Value.int .i64) (d2 := Value.bool) (d3 := Value.int .i64) Try.underlying31 (by kernel_rfl) (by kernel_rfl) (reads_i64 Try.underlying3) (reads_i64 Try.underlying3) (reads_bool Try.underlying4) (reads_i64 Try.underlying3)).map
    (fun p => ⟨p.1, p.2.1, p.2.2.1, p.2.2.2⟩) (fun _ => rfl) (fun _ h => ⟨h.1, h.2.1, h.2.2.2⟩)
theorem wf_ok {l : List E} (h : ∀ e ∈ l, okE e) : Wf l := fun e he => WalkArith.wf_i64 (h e he).2.1
def l0 : List E := [⟨1, 0, false, 0⟩, ⟨0, 0, false, 0⟩, ⟨2, 0, false, 0⟩, ⟨1, 1, false, 0⟩, ⟨0, 0, false, 0⟩, ⟨0, 0, false, 0⟩]
theorem k_yes : keepsD (outP l0 l0.length) l0.length 2 = true := by decide +kernel
theorem k_no : keepsD (outP l0 l0.length) l0.length 1 = false := by decide +kernel
theorem m_yes : movesD (outP l0 l0.length) l0.length 3 = true := by decide +kernel
theorem m_no : movesD (outP l0 l0.length) l0.length 2 = false := by decide +kernel
theorem l0_ok : Wf l0 := fun e he => WalkArith.wf_i64 (by
  simp only [l0, List.mem_cons, List.not_mem_nil, or_false] at he
  rcases he with rfl | rfl | rfl | rfl | rfl | rfl <;> (constructor <;> decide))
theorem e1 : eachD 2 2 2 0 = 14 := by decide +kernel
theorem e2 : eachD 4 3 4 1 = 96 := by decide +kernel
theorem e3 : eachD 1 2 2 0 = 0 := by decide +kernel
theorem e4 : someD 1 2 3 1 2 = 21 := by decide +kernel
/-- Where a slice lies, behind calls that make memory. -/
def SlW (A : Option Addr) (l : List E) (W : World) : Prop := Sl W W.heap.size A (l.flatMap dE)
theorem SlW.step {A : Option Addr} {l : List E} {W W' : World} (h : SlW A l W) (hb : Below W.heap.size W W') : SlW A l W' := (Sl.below h hb).more hb.size
theorem kp_any (l : List E) (within : Int) (A : Option Addr) (cap : Nat) (W : World) (b : Bool) (hb : keepsD (outP l l.length) l.length within = b) (hm : l.length ≤ 1000) (hwf : Wf l) (hs : SlW A l W) :
    Calls Try.prog 9 #[.int .i64 within, .slice A l.length cap] W fun e w' => e = .returned (.bool b) ∧ Below W.heap.size W w' := by subst hb; exact keeps_any l within A cap W hm hwf hs
theorem mv_any (l : List E) (within : Int) (A : Option Addr) (cap : Nat) (W : World) (b : Bool) (hb : movesD (outP l l.length) l.length within = b) (hm : l.length ≤ 1000) (hwf : Wf l) (hs : SlW A l W) :
    Calls Try.prog 11 #[.int .i64 within, .slice A l.length cap] W fun e w' => e = .returned (.bool b) ∧ Below W.heap.size W w' := by subst hb; exact moves_any l within A cap W hm hwf hs
theorem rkp_any (l : List E) (within : Int) (A : Option Addr) (cap : Nat) (W : World) (b : Bool) (hb : keepsD (outP l l.length) l.length within = b) (hm : l.length ≤ 1000) (hs : SlW A l W) :
    Calls Try.prog 10 #[.int .i64 within, .slice A l.length cap] W fun e w' => e = .returned (.bool b) ∧ Below W.heap.size W w' := by subst hb; rw [of_eq]; exact rkeeps_any l within A cap W hm hs
theorem rmv_any (l : List E) (within : Int) (A : Option Addr) (cap : Nat) (W : World) (b : Bool) (hb : movesD (outP l l.length) l.length within = b) (hm : l.length ≤ 1000) (hs : SlW A l W) :
    Calls Try.prog 12 #[.int .i64 within, .slice A l.length cap] W fun e w' => e = .returned (.bool b) ∧ Below W.heap.size W w' := by subst hb; rw [of_eq]; exact rmoves_any l within A cap W hm hs
theorem eachE (kind t k s v : Int) (h : eachD kind t k s = v) (w : World) : Calls Try.prog 5 #[.int .i64 kind, .int .i64 t, .int .i64 k, .int .i64 s] w fun e w' => e = .returned (.int .i64 v) ∧ w' = w := by subst h; exact each_any kind t k s w
theorem someE (kind t k s par v : Int) (h : someD kind t k s par = v) (w : World) : Calls Try.prog 7 #[.int .i64 kind, .int .i64 t, .int .i64 k, .int .i64 s, .int .i64 par] w fun e w' => e = .returned (.int .i64 v) ∧ w' = w := by subst h; exact some_any kind t k s par w
theorem reachE (kind t k s v : Int) (h : eachD kind t k s = v) (w : World) : Calls Try.prog 6 #[.int .i64 kind, .int .i64 t, .int .i64 k, .int .i64 s] w fun e w' => e = .returned (.int .i64 v) ∧ w' = w := by subst h; exact reach_any kind t k s w
theorem rsomeE (kind t k s par v : Int) (h : someD kind t k s par = v) (w : World) : Calls Try.prog 8 #[.int .i64 kind, .int .i64 t, .int .i64 k, .int .i64 s, .int .i64 par] w fun e w' => e = .returned (.int .i64 v) ∧ w' = w := by subst h; exact rsome_any kind t k s par w
set_option maxRecDepth 100000 in
theorem awake_any (w : World) : Calls Try.prog 4 #[] w fun e w' => e = .returned (.bool true) ∧ Below w.heap.size w w' := by
  have S0 := Lib.hid (fun cs (hc : cs.toList = l0.flatMap dE) => show SlW (some ⟨w.heap.size, 0, none⟩) l0 (w.alloc (.cells cs 31)) from by
    have := Sl_new w cs 31
    rw [hc] at this
    exact this.more (by simp))
  have B0 := Lib.hid (fun cs => below_new w (.cells cs 31))
  have K1 := Lib.hid (fun W (h : SlW (some ⟨w.heap.size, 0, none⟩) l0 W) => kp_any l0 2 _ 6 W _ k_yes (by decide) l0_ok h)
  have K2 := Lib.hid (fun W (h : SlW (some ⟨w.heap.size, 0, none⟩) l0 W) => kp_any l0 1 _ 6 W _ k_no (by decide) l0_ok h)
  have K3 := Lib.hid (fun W (h : SlW (some ⟨w.heap.size, 0, none⟩) l0 W) => mv_any l0 3 _ 6 W _ m_yes (by decide) l0_ok h)
  have K4 := Lib.hid (fun W (h : SlW (some ⟨w.heap.size, 0, none⟩) l0 W) => mv_any l0 2 _ 6 W _ m_no (by decide) l0_ok h)
  go_enter Try.func4, Try.ntmps4
  go_wp2_with fail
  refine (eachE _ _ _ _ _ e1 _).mono ?_
  rintro e wx ⟨rfl, hwx⟩
  obtain rfl := hwx.symm
  go_wp2_with fail
  refine (eachE _ _ _ _ _ e2 _).mono ?_
  rintro e wx ⟨rfl, hwx⟩
  obtain rfl := hwx.symm
  go_wp2_with fail
  refine (eachE _ _ _ _ _ e3 _).mono ?_
  rintro e wx ⟨rfl, hwx⟩
  obtain rfl := hwx.symm
  go_wp2_with fail
  refine (someE _ _ _ _ _ _ e4 _).mono ?_
  rintro e wx ⟨rfl, hwx⟩
  obtain rfl := hwx.symm
  go_wp2_with fail
  have S1 := Lib.hid (S0.out _ (show (#[.int .i64 1, .int .i64 0, .bool false, .int .i64 0, .int .i64 0, .int .i64 0, .bool false, .int .i64 0, .int .i64 2, .int .i64 0, .bool false, .int .i64 0, .int .i64 1, .int .i64 1, .bool false, .int .i64 0, .int .i64 0, .int .i64 0, .bool false, .int .i64 0, .int .i64 0, .int .i64 0, .bool false, .int .i64 0] : Array Value).toList = l0.flatMap dE from rfl))
  have B1 := Lib.hid (B0.out #[.int .i64 1, .int .i64 0, .bool false, .int .i64 0, .int .i64 0, .int .i64 0, .bool false, .int .i64 0, .int .i64 2, .int .i64 0, .bool false, .int .i64 0, .int .i64 1, .int .i64 1, .bool false, .int .i64 0, .int .i64 0, .int .i64 0, .bool false, .int .i64 0, .int .i64 0, .int .i64 0, .bool false, .int .i64 0])
  refine (K1.out _ S1.out).mono ?_
  rintro e w2 ⟨rfl, hbx⟩
  have S2 := Lib.hid ((S1).out.step hbx)
  have B2 := Lib.hid ((B1).out.trans (hbx.mono (B1).out.size))
  clear hbx
  go_wp2_with fail
  refine (K2.out _ S2.out).mono ?_
  rintro e w3 ⟨rfl, hbx⟩
  have S3 := Lib.hid ((S2).out.step hbx)
  have B3 := Lib.hid ((B2).out.trans (hbx.mono (B2).out.size))
  clear hbx
  go_wp2_with fail
  refine (K3.out _ S3.out).mono ?_
  rintro e w4 ⟨rfl, hbx⟩
  have S4 := Lib.hid ((S3).out.step hbx)
  have B4 := Lib.hid ((B3).out.trans (hbx.mono (B3).out.size))
  clear hbx
  go_wp2_with fail
  refine (K4.out _ S4.out).mono ?_
  rintro e w5 ⟨rfl, hbx⟩
  have S5 := Lib.hid ((S4).out.step hbx)
  have B5 := Lib.hid ((B4).out.trans (hbx.mono (B4).out.size))
  clear hbx
  go_wp2_with fail
  go_ret
  exact ⟨rfl, B5.out⟩
set_option maxRecDepth 100000 in
theorem says_walk (n0 n1 n2 n3 n4 within : Int) (l : List E) (A : Option Addr) (cap : Nat) (w : World) (hlm : l.length ≤ maxLen) (hok : ∀ e ∈ l, okE e) (hs : Sl w w.heap.size A (l.flatMap dE)) :
    Calls Try.prog 3 #[.agg #[.int .i64 n0, .int .i64 n1, .int .i64 n2, .int .i64 n3, .int .i64 n4], .int .i64 within, .slice A l.length cap] w fun e w' => e = .returned (.bool true) ∧ Below w.heap.size w w' := by
  unfold maxLen at hlm
  have B0 := Lib.hid (below_new w (.cells #[.int .i64 n0, .int .i64 n1, .int .i64 n2, .int .i64 n3, .int .i64 n4] 22))
  have S0 := Lib.hid (show SlW A l w from hs)
  by_cases h6 : 60 < l.length
  · have i1 : (60 : Int) < (l.length : Int) := by omega
    clear hs hok
    go_enter Try.func3, Try.ntmps3
    go_wp2_with fail
    refine (awake_any _).mono ?_
    rintro e w2 ⟨rfl, hbx⟩
    have B2 := Lib.hid (B0.out.trans (hbx.mono (by simp)))
    clear hbx
    go_wp2_with fail
    go_ret
    exact ⟨rfl, B2.out⟩
  · have i1 : ¬ (60 : Int) < (l.length : Int) := by omega
    have hwf := wf_ok hok
    obtain ⟨v1, hv1⟩ : ∃ v, eachD n0 n1 n2 n3 = v := ⟨_, rfl⟩
    obtain ⟨v2, hv2⟩ : ∃ v, someD n0 n1 n2 n3 n4 = v := ⟨_, rfl⟩
    obtain ⟨v3, hv3⟩ : ∃ v, keepsD (outP l l.length) l.length within = v := ⟨_, rfl⟩
    obtain ⟨v4, hv4⟩ : ∃ v, movesD (outP l l.length) l.length within = v := ⟨_, rfl⟩
    have q1 : (v1 == v1) = true := beq_self_eq_true _
    have q2 : (v2 == v2) = true := beq_self_eq_true _
    have q3 : (v3 == v3) = true := beq_self_eq_true _
    have q4 : (v4 == v4) = true := beq_self_eq_true _
    have HV1 := Lib.hid hv1
    have HV2 := Lib.hid hv2
    have HV3 := Lib.hid hv3
    have HV4 := Lib.hid hv4
    have HWF := Lib.hid hwf
    clear hv1 hv2 hv3 hv4 hwf hs hok
    go_enter Try.func3, Try.ntmps3
    go_wp2_with fail
    have hn := blk_new w (.cells #[.int .i64 n0, .int .i64 n1, .int .i64 n2, .int .i64 n3, .int .i64 n4] 22)
    have b0 := blk_cell hn 0 (by simp)
    have b1 := blk_cell hn 1 (by simp)
    have b2 := blk_cell hn 2 (by simp)
    have b3 := blk_cell hn 3 (by simp)
    have b4 := blk_cell hn 4 (by simp)
    simp only [List.getElem_toArray, List.getElem_cons_zero, List.getElem_cons_succ] at b0 b1 b2 b3 b4
    clear hn
    have S1 := Lib.hid (S0.out.step B0.out)
    obtain ⟨bx, hbx⟩ : ∃ bx, w.heap.size = bx := ⟨_, rfl⟩
    generalize (w.alloc (.cells #[.int .i64 n0, .int .i64 n1, .int .i64 n2, .int .i64 n3, .int .i64 n4] 22)) = W3 at *
    rw [hbx] at b0 b1 b2 b3 b4
    simp only [hbx]
    have HBX := Lib.hid hbx
    clear hbx
    have C1 := Lib.hid (fun d os => Calls.regrown_of (of_same (eachE n0 n1 n2 n3 v1 HV1.out (grow (redrawn W3 d) os))))
    have C2 := Lib.hid (fun d os => Calls.regrown_of (of_same (reachE n0 n1 n2 n3 v1 HV1.out (grow (redrawn W3 d) os))))
    have C3 := Lib.hid (fun d os => Calls.regrown_of (of_same (someE n0 n1 n2 n3 n4 v2 HV2.out (grow (redrawn W3 d) os))))
    have C4 := Lib.hid (fun d os => Calls.regrown_of (of_same (rsomeE n0 n1 n2 n3 n4 v2 HV2.out (grow (redrawn W3 d) os))))
    have C5 := Lib.hid (fun d os => Calls.regrown_of (kp_any l within A cap (grow (redrawn W3 d) os) v3 HV3.out (by omega) HWF.out (S1.out.step (below_regrown W3 d os))))
    have C6 := Lib.hid (fun d os => Calls.regrown_of (rkp_any l within A cap (grow (redrawn W3 d) os) v3 HV3.out (by omega) (S1.out.step (below_regrown W3 d os))))
    have C7 := Lib.hid (fun d os => Calls.regrown_of (mv_any l within A cap (grow (redrawn W3 d) os) v4 HV4.out (by omega) HWF.out (S1.out.step (below_regrown W3 d os))))
    have C8 := Lib.hid (fun d os => Calls.regrown_of (rmv_any l within A cap (grow (redrawn W3 d) os) v4 HV4.out (by omega) (S1.out.step (below_regrown W3 d os))))
    have C9 := Lib.hid (fun d os => Calls.regrown_of (awake_any (grow (redrawn W3 d) os)))
    have k0 := cell_regrown b0
    have k1 := cell_regrown b1
    have k2 := cell_regrown b2
    have k3 := cell_regrown b3
    have k4 := cell_regrown b4
    clear b0 b1 b2 b3 b4
    refine wp_region_quiet_below (by kernel_rfl) (by kernel_rfl) ?_
    repeat (any_goals (first | go_big_quiet_step ((first | (go_at_call 5; exact C1.out _ _) | (go_at_call 6; exact C2.out _ _) | (go_at_call 7; exact C3.out _ _) | (go_at_call 8; exact C4.out _ _) | (go_at_call 9; exact C5.out _ _) | (go_at_call 10; exact C6.out _ _) | (go_at_call 11; exact C7.out _ _) | (go_at_call 12; exact C8.out _ _) | (go_at_call 4; exact C9.out _ _))) | quiet_step ((first | (go_at_call 5; exact C1.out _ _) | (go_at_call 6; exact C2.out _ _) | (go_at_call 7; exact C3.out _ _) | (go_at_call 8; exact C4.out _ _) | (go_at_call 9; exact C5.out _ _) | (go_at_call 10; exact C6.out _ _) | (go_at_call 11; exact C7.out _ _) | (go_at_call 12; exact C8.out _ _) | (go_at_call 4; exact C9.out _ _)))))
    refine wpQuiet_nil ?_
    intro _ hw'
    obtain ⟨⟨dq, osq⟩, hw''⟩ := hw'
    subst hw''
    go_wp2_with fail
    go_ret
    exact ⟨rfl, by have h := B0.out.trans ((below_regrown W3 dq osq).mono B0.out.size); first | exact h | (rw [HBX.out] at h; exact h)⟩
theorem says_law (w : World) (n : List Int) (hn : n.length = 5 ∧ ∀ a ∈ n, isI64 a) (within : Int) (_ : isI64 within) (A : Option Addr) (cap : Nat) (l : List E) (hc : l.length ≤ cap) (hm : cap ≤ maxLen) (hok : ∀ e ∈ l, okE e) (hs : Sl w w.heap.size A (l.flatMap dE)) :
    Calls Try.prog 3 #[.agg (n.flatMap fun n => [.int .i64 n]).toArray, .int .i64 within, .slice A l.length cap] w fun e w' => e = .returned (.bool true) ∧ Below w.heap.size w w' := by
  obtain ⟨a, b, c, d, e, rfl⟩ := list5 hn.1
  exact says_walk a b c d e within l A cap w (Nat.le_trans hc hm) hok hs
end Go.Proofs.Ytdkggdfofmgdlaa.Sp
