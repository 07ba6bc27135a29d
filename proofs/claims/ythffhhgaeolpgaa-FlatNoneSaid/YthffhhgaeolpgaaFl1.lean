/- Package flat: a lock that nobody made; a lock over a word that is taken; how many words a lock takes. -/
import Derived.Test.YthffhhgaeolpgaaTa2
import Derived.Test.YthffhhgaeolpgaaMc5
import Derived.Test.YthffhhgaeolpgaaPt5
namespace Go.Proofs.Ythffhhgaeolpgaa.Fl
open Go.RowKit Go.Proofs.Ythffhhgaeolpgaa.Ara Go.Proofs.Ythffhhgaeolpgaa.Lok

theorem sfld0 (a b c d : Int) (W : World) : (Instr.field 31 (.agg #[.int .i64 a, .int .i64 b, .int .i64 c, .int .i64 d]) 0).run Try.prog W = .ok (.int .i64 a) W := by
  simp [Instr.field, run_underlying Try.underlying31, asAgg, go_sem]
/-- Nobody made it. -/
def NoneAt (W : World) (q : Option Addr) : Prop := q = none ∨ ∃ g, q = some ⟨g, 0, none⟩ ∧ W.cell? ⟨g, 0, none⟩ = some (.int .i64 0)
theorem NoneAt.same {W W' : World} {q : Option Addr} (h : NoneAt W q) (hb : Below W.heap.size W W') : NoneAt W' q := by
  rcases h with h | ⟨g, h1, h2⟩
  · exact .inl h
  · exact .inr ⟨g, h1, keep1 hb h2⟩
section
variable (q : Option Addr) (w : World) (H : NoneAt w q)
include H
theorem made_none : Calls Try.prog 67 #[.pointer q] w fun e w' => e = .returned (.bool false) ∧ w' = w := by
  rcases H with rfl | ⟨g, rfl, hc⟩
  · go_enter Try.func67, Try.ntmps67
    go_wp2_with fail
    go_ret
    exact ⟨rfl, rfl⟩
  · go_enter Try.func67, Try.ntmps67
    go_wp2_with fail
    go_ret
    exact ⟨rfl, rfl⟩
theorem kind_none : Calls Try.prog 34 #[.pointer q] w fun e w' => e = .returned (.int .i64 0) ∧ w' = w := by
  have HM := Lib.hid (made_none q w H)
  clear H
  go_enter Try.func34, Try.ntmps34
  go_wp2_with fail
  refine (HM.out).mono ?_
  rintro e wx ⟨rfl, hwx⟩
  obtain rfl := hwx.symm
  go_wp2_with fail
  go_ret
  exact ⟨rfl, rfl⟩
theorem slots_none : Calls Try.prog 35 #[.pointer q] w fun e w' => e = .returned (.int .i64 0) ∧ w' = w := by
  have HM := Lib.hid (made_none q w H)
  clear H
  go_enter Try.func35, Try.ntmps35
  go_wp2_with fail
  refine (HM.out).mono ?_
  rintro e wx ⟨rfl, hwx⟩
  obtain rfl := hwx.symm
  go_wp2_with fail
  go_ret
  exact ⟨rfl, rfl⟩
theorem Ask_none (i : Int) : Calls Try.prog 60 #[.pointer q, .int .i64 i] w fun e w' => e = .returned (.bool false) ∧ w' = w := by
  have HM := Lib.hid (made_none q w H)
  clear H
  go_enter Try.func60, Try.ntmps60
  go_wp2_with fail
  refine (HM.out).mono ?_
  rintro e wx ⟨rfl, hwx⟩
  obtain rfl := hwx.symm
  go_wp2_with fail
  go_ret
  exact ⟨rfl, rfl⟩
theorem Leave_none (i : Int) : Calls Try.prog 63 #[.pointer q, .int .i64 i] w fun e w' => e = .returned (.bool false) ∧ w' = w := by
  have HM := Lib.hid (made_none q w H)
  clear H
  go_enter Try.func63, Try.ntmps63
  go_wp2_with fail
  refine (HM.out).mono ?_
  rintro e wx ⟨rfl, hwx⟩
  obtain rfl := hwx.symm
  go_wp2_with fail
  go_ret
  exact ⟨rfl, rfl⟩
theorem Step_none (i : Int) : Calls Try.prog 62 #[.pointer q, .int .i64 i] w fun e w' => e = .returned (.bool false) ∧ w' = w := by
  have HM := Lib.hid (made_none q w H)
  clear H
  go_enter Try.func62, Try.ntmps62
  go_wp2_with fail
  refine (HM.out).mono ?_
  rintro e wx ⟨rfl, hwx⟩
  obtain rfl := hwx.symm
  go_wp2_with fail
  go_ret
  exact ⟨rfl, rfl⟩
theorem Alone_none (i : Int) : Calls Try.prog 61 #[.pointer q, .int .i64 i] w fun e w' => e = .returned (.bool false) ∧ w' = w := by
  have HM := Lib.hid (made_none q w H)
  clear H
  go_enter Try.func61, Try.ntmps61
  go_wp2_with fail
  refine (HM.out).mono ?_
  rintro e wx ⟨rfl, hwx⟩
  obtain rfl := hwx.symm
  go_wp2_with fail
  go_ret
  exact ⟨rfl, rfl⟩
theorem Spot_none (i : Int) : Calls Try.prog 31 #[.pointer q, .int .i64 i] w fun e w' => e = .returned (.agg #[.int .i64 0, .int .i64 0, .int .i64 0, .int .i64 0]) ∧ Below w.heap.size w w' := by
  have HM := Lib.hid (made_none q _ (H.same (below_new w (.cells #[.int .i64 0, .int .i64 0, .int .i64 0, .int .i64 0] 31))))
  clear H
  go_enter Try.func31, Try.ntmps31
  go_wp2_with fail
  refine (HM.out).mono ?_
  rintro e wx ⟨rfl, hwx⟩
  obtain rfl := hwx.symm
  go_wp2_with fail
  exact bodyPost_ret (v := .agg #[.int .i64 0, .int .i64 0, .int .i64 0, .int .i64 0]) (by simp [results, Try.results31, go_sem]) rfl ⟨rfl, by first | exact below_new _ _ | exact (Below.refl _ _).alloc (Nat.le_refl _) _⟩
end
/-- A flat lock in memory. -/
def FlB (W : World) (gf : Nat) (kind : Int) (T : TypeId) (v : Value) : Prop := W.heap[gf]? = some (.cells #[.int .i64 kind, .iface T v] 61 (0, 0))
section
variable (gf : Nat) (kind : Int) (T : TypeId) (v : Value) (w : World) (H : FlB w gf kind T v) (hk : kind ≠ 0)
include H hk
theorem made_yes : Calls Try.prog 67 #[.pointer (some ⟨gf, 0, none⟩)] w fun e w' => e = .returned (.bool true) ∧ w' = w := by
  have c0 := blk_cell H 0 (by simp)
  simp only [List.getElem_toArray, List.getElem_cons_zero] at c0
  have e1 := ibne hk
  clear H hk
  go_enter Try.func67, Try.ntmps67
  go_wp2_with fail
  go_ret
  exact ⟨rfl, rfl⟩
theorem kind_yes : Calls Try.prog 34 #[.pointer (some ⟨gf, 0, none⟩)] w fun e w' => e = .returned (.int .i64 kind) ∧ w' = w := by
  have HM := Lib.hid (made_yes gf kind T v w H hk)
  have c0 := blk_cell H 0 (by simp)
  simp only [List.getElem_toArray, List.getElem_cons_zero] at c0
  clear H hk
  go_enter Try.func34, Try.ntmps34
  go_wp2_with fail
  refine (HM.out).mono ?_
  rintro e wx ⟨rfl, hwx⟩
  obtain rfl := hwx.symm
  go_wp2_with fail
  go_ret
  exact ⟨rfl, rfl⟩
end
def tasV (gl : Nat) : Value := .agg #[.pointer (some ⟨gl, 0, none⟩)]
theorem m_Ask (gl : Nat) (w : World) : (method 59 91 (.agg #[.pointer (some ⟨gl, 0, none⟩)]) "Ask").run Try.prog w = .ok (111, .pointer (some ⟨gl, 0, none⟩)) w := by kernel_rfl
theorem m_Leave (gl : Nat) (w : World) : (method 59 91 (.agg #[.pointer (some ⟨gl, 0, none⟩)]) "Leave").run Try.prog w = .ok (112, .pointer (some ⟨gl, 0, none⟩)) w := by kernel_rfl
theorem m_Step (gl : Nat) (w : World) : (method 59 91 (.agg #[.pointer (some ⟨gl, 0, none⟩)]) "Step").run Try.prog w = .ok (115, .pointer (some ⟨gl, 0, none⟩)) w := by kernel_rfl
theorem m_Slots (gl : Nat) (w : World) : (method 59 91 (.agg #[.pointer (some ⟨gl, 0, none⟩)]) "Slots").run Try.prog w = .ok (113, .pointer (some ⟨gl, 0, none⟩)) w := by kernel_rfl
theorem m_Spot (gl : Nat) (w : World) : (method 59 91 (.agg #[.pointer (some ⟨gl, 0, none⟩)]) "Spot").run Try.prog w = .ok (114, .pointer (some ⟨gl, 0, none⟩)) w := by kernel_rfl
theorem m_Alone (gl : Nat) (w : World) : (method 59 91 (.agg #[.pointer (some ⟨gl, 0, none⟩)]) "Alone").run Try.prog w = .ok (117, .agg #[.pointer (some ⟨gl, 0, none⟩)]) w := by kernel_rfl
section
variable (gf gl : Nat) (w : World) (H : FlB w gf 1 91 (.agg #[.pointer (some ⟨gl, 0, none⟩)]))
include H
set_option maxRecDepth 100000 in
theorem Ask_fl (i : Int) (b : Bool) (R : World → Prop) (HC : Calls Try.prog 111 #[.pointer (some ⟨gl, 0, none⟩), .int .i64 i] w fun e w' => e = .returned (.bool b) ∧ R w') : Calls Try.prog 60 #[.pointer (some ⟨gf, 0, none⟩), .int .i64 i] w fun e w' => e = .returned (.bool b) ∧ R w' := by
  have hm := fun w => m_Ask gl w
  have HM := Lib.hid (made_yes gf 1 _ _ w H (by decide))
  have c1 := blk_cell H 1 (by simp)
  simp only [List.getElem_toArray, List.getElem_cons_succ, List.getElem_cons_zero] at c1
  replace HC := Lib.hid HC
  clear H
  go_enter Try.func60, Try.ntmps60
  go_wp2_with fail
  refine (HM.out).mono ?_
  rintro e wx ⟨rfl, hwx⟩
  obtain rfl := hwx.symm
  go_wp2_with fail
  refine HC.out.mono ?_
  rintro e w2 ⟨rfl, h2⟩
  replace h2 := Lib.hid h2
  go_wp2_with fail
  go_ret
  exact ⟨rfl, h2.out⟩
set_option maxRecDepth 100000 in
theorem Leave_fl (i : Int) (b : Bool) (R : World → Prop) (HC : Calls Try.prog 112 #[.pointer (some ⟨gl, 0, none⟩), .int .i64 i] w fun e w' => e = .returned (.bool b) ∧ R w') : Calls Try.prog 63 #[.pointer (some ⟨gf, 0, none⟩), .int .i64 i] w fun e w' => e = .returned (.bool b) ∧ R w' := by
  have hm := fun w => m_Leave gl w
  have HM := Lib.hid (made_yes gf 1 _ _ w H (by decide))
  have c1 := blk_cell H 1 (by simp)
  simp only [List.getElem_toArray, List.getElem_cons_succ, List.getElem_cons_zero] at c1
  replace HC := Lib.hid HC
  clear H
  go_enter Try.func63, Try.ntmps63
  go_wp2_with fail
  refine (HM.out).mono ?_
  rintro e wx ⟨rfl, hwx⟩
  obtain rfl := hwx.symm
  go_wp2_with fail
  refine HC.out.mono ?_
  rintro e w2 ⟨rfl, h2⟩
  replace h2 := Lib.hid h2
  go_wp2_with fail
  go_ret
  exact ⟨rfl, h2.out⟩
set_option maxRecDepth 100000 in
theorem Step_fl (i : Int) (b : Bool) (R : World → Prop) (HC : Calls Try.prog 115 #[.pointer (some ⟨gl, 0, none⟩), .int .i64 i] w fun e w' => e = .returned (.bool b) ∧ R w') : Calls Try.prog 62 #[.pointer (some ⟨gf, 0, none⟩), .int .i64 i] w fun e w' => e = .returned (.bool b) ∧ R w' := by
  have hm := fun w => m_Step gl w
  have HM := Lib.hid (made_yes gf 1 _ _ w H (by decide))
  have c1 := blk_cell H 1 (by simp)
  simp only [List.getElem_toArray, List.getElem_cons_succ, List.getElem_cons_zero] at c1
  replace HC := Lib.hid HC
  clear H
  go_enter Try.func62, Try.ntmps62
  go_wp2_with fail
  refine (HM.out).mono ?_
  rintro e wx ⟨rfl, hwx⟩
  obtain rfl := hwx.symm
  go_wp2_with fail
  refine HC.out.mono ?_
  rintro e w2 ⟨rfl, h2⟩
  replace h2 := Lib.hid h2
  go_wp2_with fail
  go_ret
  exact ⟨rfl, h2.out⟩
end
end Go.Proofs.Ythffhhgaeolpgaa.Fl
