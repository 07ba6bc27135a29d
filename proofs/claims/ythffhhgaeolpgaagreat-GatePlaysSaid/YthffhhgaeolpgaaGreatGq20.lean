/- Merged texts: Rfm, Rfn, Rfo, Fln. -/
import Derived.Test.YthffhhgaeolpgaaGreatGq19
set_option linter.unusedVariables false
/- The document's lock of layer 20, in memory: each act, whole. -/
namespace Go.Proofs.YthffhhgaeolpgaaGreat.Fl
open Go.RowKit Go.Proofs.YthffhhgaeolpgaaGreat.Ara Go.Proofs.YthffhhgaeolpgaaGreat.Lok

theorem rsfld0 (a b c d : Int) (W : World) : (Instr.field 53 (.agg #[.int .i64 a, .int .i64 b, .int .i64 c, .int .i64 d]) 0).run Tryz.prog W = .ok (.int .i64 a) W := sfld0 a b c d W
section
variable {gK gL gr base hs : Nat} {p : PK} {σ : Ar} {ρ : Rf} {sp : List Sp} {w : World} (K : RFL w gK gL gr base hs p ρ sp) (hA : Alk σ ρ)
include K
include hA
theorem rAsk_flat (n m : Nat) (ho : OkK p σ sp n m) (hm : m ≤ 100000) (i : Int) : Calls Tryz.prog 65 #[.pointer (some ⟨gK, 0, none⟩), .int .i64 i] w fun e w' => e = .returned (.bool (doK p σ sp 1 i).1) ∧ RAct gK gL gr base hs p (doK p σ sp 1 i) w w' := by
  have hops : σ.ops < 1000000 := by have := ho.ops; omega
  cases p with
  | tas P =>
    have h0 := blk_cell K.fb 0 (by simp [rcs])
    have h1 := blk_cell K.fb 1 (by simp [rcs])
    simp only [rcs, List.getElem_toArray, List.getElem_cons_zero, List.getElem_cons_succ] at h0 h1
    exact rAsk_1 gK gL w h0 h1 i _ _ ((Ta.rask gL gr base hs P σ ρ sp w K.at_ hA i).mono fun e w' ⟨a, ⟨ρ', b1, b2⟩, c⟩ => ⟨a, ⟨ρ', b1, K.acts b2 c⟩, c⟩)
  | tic P =>
    have h0 := blk_cell K.fb 0 (by simp [rcs])
    have h1 := blk_cell K.fb 2 (by simp [rcs])
    simp only [rcs, List.getElem_toArray, List.getElem_cons_zero, List.getElem_cons_succ] at h0 h1
    exact rAsk_2 gK gL w h0 h1 i _ _ ((Tk.rask gL gr base hs P σ ρ sp w K.at_ hA i).mono fun e w' ⟨a, ⟨ρ', b1, b2⟩, c⟩ => ⟨a, ⟨ρ', b1, K.acts b2 c⟩, c⟩)
  | par P =>
    have h0 := blk_cell K.fb 0 (by simp [rcs])
    have h1 := blk_cell K.fb 3 (by simp [rcs])
    simp only [rcs, List.getElem_toArray, List.getElem_cons_zero, List.getElem_cons_succ] at h0 h1
    exact rAsk_3 gK gL w h0 h1 i _ _ ((Pt.rask gL gr base hs P σ ρ sp w K.at_ hA i).mono fun e w' ⟨a, ⟨ρ', b1, b2⟩, c⟩ => ⟨a, ⟨ρ', b1, K.acts b2 c⟩, c⟩)
  | mcs P =>
    have h0 := blk_cell K.fb 0 (by simp [rcs])
    have h1 := blk_cell K.fb 4 (by simp [rcs])
    simp only [rcs, List.getElem_toArray, List.getElem_cons_zero, List.getElem_cons_succ] at h0 h1
    exact rAsk_4 gK gL w h0 h1 i _ _ ((Mc.rask gL gr base hs P σ ρ sp w K.at_ hA i).mono fun e w' ⟨a, ⟨ρ', b1, b2⟩, c⟩ => ⟨a, ⟨ρ', b1, K.acts b2 c⟩, c⟩)
  | clh P =>
    have h0 := blk_cell K.fb 0 (by simp [rcs])
    have h1 := blk_cell K.fb 5 (by simp [rcs])
    simp only [rcs, List.getElem_toArray, List.getElem_cons_zero, List.getElem_cons_succ] at h0 h1
    exact rAsk_5 gK gL w h0 h1 i _ _ ((Cl.rask gL gr base hs P σ ρ sp w K.at_ hA i).mono fun e w' ⟨a, ⟨ρ', b1, b2⟩, c⟩ => ⟨a, ⟨ρ', b1, K.acts b2 c⟩, c⟩)
theorem rLeave_flat (n m : Nat) (ho : OkK p σ sp n m) (hm : m ≤ 100000) (i : Int) : Calls Tryz.prog 66 #[.pointer (some ⟨gK, 0, none⟩), .int .i64 i] w fun e w' => e = .returned (.bool (doK p σ sp 2 i).1) ∧ RAct gK gL gr base hs p (doK p σ sp 2 i) w w' := by
  have hops : σ.ops < 1000000 := by have := ho.ops; omega
  cases p with
  | tas P =>
    have h0 := blk_cell K.fb 0 (by simp [rcs])
    have h1 := blk_cell K.fb 1 (by simp [rcs])
    simp only [rcs, List.getElem_toArray, List.getElem_cons_zero, List.getElem_cons_succ] at h0 h1
    exact rLeave_1 gK gL w h0 h1 i _ _ ((Ta.rleave gL gr base hs P σ ρ sp w K.at_ hA i).mono fun e w' ⟨a, ⟨ρ', b1, b2⟩, c⟩ => ⟨a, ⟨ρ', b1, K.acts b2 c⟩, c⟩)
  | tic P =>
    have h0 := blk_cell K.fb 0 (by simp [rcs])
    have h1 := blk_cell K.fb 2 (by simp [rcs])
    simp only [rcs, List.getElem_toArray, List.getElem_cons_zero, List.getElem_cons_succ] at h0 h1
    exact rLeave_2 gK gL w h0 h1 i _ _ ((Tk.rleave gL gr base hs P σ ρ sp w K.at_ hA i).mono fun e w' ⟨a, ⟨ρ', b1, b2⟩, c⟩ => ⟨a, ⟨ρ', b1, K.acts b2 c⟩, c⟩)
  | par P =>
    have h0 := blk_cell K.fb 0 (by simp [rcs])
    have h1 := blk_cell K.fb 3 (by simp [rcs])
    simp only [rcs, List.getElem_toArray, List.getElem_cons_zero, List.getElem_cons_succ] at h0 h1
    exact rLeave_3 gK gL w h0 h1 i _ _ ((Pt.rleave gL gr base hs P σ ρ sp w K.at_ hA i).mono fun e w' ⟨a, ⟨ρ', b1, b2⟩, c⟩ => ⟨a, ⟨ρ', b1, K.acts b2 c⟩, c⟩)
  | mcs P =>
    have h0 := blk_cell K.fb 0 (by simp [rcs])
    have h1 := blk_cell K.fb 4 (by simp [rcs])
    simp only [rcs, List.getElem_toArray, List.getElem_cons_zero, List.getElem_cons_succ] at h0 h1
    exact rLeave_4 gK gL w h0 h1 i _ _ ((Mc.rleave gL gr base hs P σ ρ sp w K.at_ hA i).mono fun e w' ⟨a, ⟨ρ', b1, b2⟩, c⟩ => ⟨a, ⟨ρ', b1, K.acts b2 c⟩, c⟩)
  | clh P =>
    have h0 := blk_cell K.fb 0 (by simp [rcs])
    have h1 := blk_cell K.fb 5 (by simp [rcs])
    simp only [rcs, List.getElem_toArray, List.getElem_cons_zero, List.getElem_cons_succ] at h0 h1
    exact rLeave_5 gK gL w h0 h1 i _ _ ((Cl.rleave gL gr base hs P σ ρ sp w K.at_ hA i).mono fun e w' ⟨a, ⟨ρ', b1, b2⟩, c⟩ => ⟨a, ⟨ρ', b1, K.acts b2 c⟩, c⟩)
theorem rStep_flat (n m : Nat) (ho : OkK p σ sp n m) (hm : m ≤ 100000) (i : Int) : Calls Tryz.prog 64 #[.pointer (some ⟨gK, 0, none⟩), .int .i64 i] w fun e w' => e = .returned (.bool (doK p σ sp 0 i).1) ∧ RAct gK gL gr base hs p (doK p σ sp 0 i) w w' := by
  have hops : σ.ops < 1000000 := by have := ho.ops; omega
  cases p with
  | tas P =>
    have h0 := blk_cell K.fb 0 (by simp [rcs])
    have h1 := blk_cell K.fb 1 (by simp [rcs])
    simp only [rcs, List.getElem_toArray, List.getElem_cons_zero, List.getElem_cons_succ] at h0 h1
    exact rStep_1 gK gL w h0 h1 i _ _ ((Ta.rstep gL gr base hs P σ ρ sp w K.at_ hA (Ta.OkP.inv ho) hops i).mono fun e w' ⟨a, ⟨ρ', b1, b2⟩, c⟩ => ⟨a, ⟨ρ', b1, K.acts b2 c⟩, c⟩)
  | tic P =>
    have h0 := blk_cell K.fb 0 (by simp [rcs])
    have h1 := blk_cell K.fb 2 (by simp [rcs])
    simp only [rcs, List.getElem_toArray, List.getElem_cons_zero, List.getElem_cons_succ] at h0 h1
    exact rStep_2 gK gL w h0 h1 i _ _ ((Tk.rstep gL gr base hs P σ ρ sp w K.at_ hA (Tk.OkP.num ho hm) hops i).mono fun e w' ⟨a, ⟨ρ', b1, b2⟩, c⟩ => ⟨a, ⟨ρ', b1, K.acts b2 c⟩, c⟩)
  | par P =>
    have h0 := blk_cell K.fb 0 (by simp [rcs])
    have h1 := blk_cell K.fb 3 (by simp [rcs])
    simp only [rcs, List.getElem_toArray, List.getElem_cons_zero, List.getElem_cons_succ] at h0 h1
    exact rStep_3 gK gL w h0 h1 i _ _ ((Pt.rstep gL gr base hs P σ ρ sp w K.at_ hA (Pt.OkP.num ho hm) hops i).mono fun e w' ⟨a, ⟨ρ', b1, b2⟩, c⟩ => ⟨a, ⟨ρ', b1, K.acts b2 c⟩, c⟩)
  | mcs P =>
    have h0 := blk_cell K.fb 0 (by simp [rcs])
    have h1 := blk_cell K.fb 4 (by simp [rcs])
    simp only [rcs, List.getElem_toArray, List.getElem_cons_zero, List.getElem_cons_succ] at h0 h1
    exact rStep_4 gK gL w h0 h1 i _ _ ((Mc.rstep gL gr base hs P σ ρ sp w K.at_ hA (Mc.OkP.num ho hm) hops i).mono fun e w' ⟨a, ⟨ρ', b1, b2⟩, c⟩ => ⟨a, ⟨ρ', b1, K.acts b2 c⟩, c⟩)
  | clh P =>
    have h0 := blk_cell K.fb 0 (by simp [rcs])
    have h1 := blk_cell K.fb 5 (by simp [rcs])
    simp only [rcs, List.getElem_toArray, List.getElem_cons_zero, List.getElem_cons_succ] at h0 h1
    exact rStep_5 gK gL w h0 h1 i _ _ ((Cl.rstep gL gr base hs P σ ρ sp w K.at_ hA (Cl.OkP.num ho hm) hops i).mono fun e w' ⟨a, ⟨ρ', b1, b2⟩, c⟩ => ⟨a, ⟨ρ', b1, K.acts b2 c⟩, c⟩)
theorem rAlone_flat (n m : Nat) (ho : OkK p σ sp n m) (hm : m ≤ 100000) (i : Int) : Calls Tryz.prog 67 #[.pointer (some ⟨gK, 0, none⟩), .int .i64 i] w fun e w' => e = .returned (.bool (doK p σ sp 3 i).1) ∧ RAct gK gL gr base hs p (doK p σ sp 3 i) w w' := by
  have hops : σ.ops < 1000000 := by have := ho.ops; omega
  cases p with
  | tas P =>
    have h0 := blk_cell K.fb 0 (by simp [rcs])
    have h1 := blk_cell K.fb 1 (by simp [rcs])
    simp only [rcs, List.getElem_toArray, List.getElem_cons_zero, List.getElem_cons_succ] at h0 h1
    have HS := Lib.hid (rSpot K i)
    show Calls _ _ _ _ fun e w' => e = .returned (.bool ((spOf sp i).pc == 10)) ∧ RAct gK gL gr base hs (.tas P) ((spOf sp i).pc == 10, σ, sp) w w'
    have HR := Lib.hid (fun w' (hb : Below w.heap.size w w') => show RAct gK gL gr base hs (.tas P) ((spOf sp i).pc == 10, σ, sp) w w' from ⟨⟨ρ, hA, K.same hb⟩, RMs.of_mod (Mod.of_below hb)⟩)
    have q1 := fun a b c d W => rsfld0 a b c d W
    clear K hA ho h1
    generalize spOf sp i = s at *
    obtain ⟨xp, xa, xb, xc⟩ := s
    simp only at HS HR ⊢
    go_enter Tryz.func67, Tryz.ntmps67
    go_wp2_with fail
    refine HS.out.mono ?_
    rintro e w2 ⟨rfl, hb⟩
    have HB := Lib.hid (HR.out _ hb)
    go_wp2_with fail
    go_ret
    exact ⟨rfl, HB.out⟩
  | tic P =>
    have h0 := blk_cell K.fb 0 (by simp [rcs])
    have h1 := blk_cell K.fb 2 (by simp [rcs])
    simp only [rcs, List.getElem_toArray, List.getElem_cons_zero, List.getElem_cons_succ] at h0 h1
    exact rAlone_2 gK gL w h0 h1 i _ _ ((Tk.ralone gL gr base hs P σ ρ sp w K.at_ hA (Tk.OkP.num ho hm) hops i).mono fun e w' ⟨a, ⟨ρ', b1, b2⟩, c⟩ => ⟨a, ⟨ρ', b1, K.acts b2 c⟩, c⟩)
  | par P =>
    have h0 := blk_cell K.fb 0 (by simp [rcs])
    have h1 := blk_cell K.fb 3 (by simp [rcs])
    simp only [rcs, List.getElem_toArray, List.getElem_cons_zero, List.getElem_cons_succ] at h0 h1
    exact rAlone_3 gK gL w h0 h1 i _ _ ((Pt.ralone gL gr base hs P σ ρ sp w K.at_ hA (Pt.OkP.num ho hm) hops i).mono fun e w' ⟨a, ⟨ρ', b1, b2⟩, c⟩ => ⟨a, ⟨ρ', b1, K.acts b2 c⟩, c⟩)
  | mcs P =>
    have h0 := blk_cell K.fb 0 (by simp [rcs])
    have h1 := blk_cell K.fb 4 (by simp [rcs])
    simp only [rcs, List.getElem_toArray, List.getElem_cons_zero, List.getElem_cons_succ] at h0 h1
    exact rAlone_4 gK gL w h0 h1 i _ _ ((Mc.ralone gL gr base hs P σ ρ sp w K.at_ hA (Mc.OkP.num ho hm) hops i).mono fun e w' ⟨a, ⟨ρ', b1, b2⟩, c⟩ => ⟨a, ⟨ρ', b1, K.acts b2 c⟩, c⟩)
  | clh P =>
    have h0 := blk_cell K.fb 0 (by simp [rcs])
    have h1 := blk_cell K.fb 5 (by simp [rcs])
    simp only [rcs, List.getElem_toArray, List.getElem_cons_zero, List.getElem_cons_succ] at h0 h1
    exact rAlone_5 gK gL w h0 h1 i _ _ ((Cl.ralone gL gr base hs P σ ρ sp w K.at_ hA (Cl.OkP.num ho hm) hops i).mono fun e w' ⟨a, ⟨ρ', b1, b2⟩, c⟩ => ⟨a, ⟨ρ', b1, K.acts b2 c⟩, c⟩)
end
end Go.Proofs.YthffhhgaeolpgaaGreat.Fl

/- The document's lock of layer 20: New. -/
namespace Go.Proofs.YthffhhgaeolpgaaGreat.Fl
open Go.RowKit Go.Proofs.YthffhhgaeolpgaaGreat.Ara Go.Proofs.YthffhhgaeolpgaaGreat.Lok

set_option maxRecDepth 100000 in
theorem rnewE_1 (q : Option Addr) (n par : Int) (w : World) (er : Int) (her : er = 1 ∨ er = 3) (R : World → Prop) (hR : ∀ w', R w' → w'.heap[w.heap.size]? = some (.cells #[.int .i64 1, .pointer none, .pointer none, .pointer none, .pointer none, .pointer none] 122 (0, 0)))
    (HC : Calls Tryz.prog 59 #[.pointer q, .int .i64 n, .int .i64 par] (w.alloc (.cells #[.int .i64 1, .pointer none, .pointer none, .pointer none, .pointer none, .pointer none] 122)) fun e w' => e = .returned (.tuple #[.pointer none, .int .i64 er]) ∧ R w') :
    Calls Tryz.prog 13 #[.pointer q, .int .i64 1, .int .i64 n, .int .i64 par] w fun e w' => e = .returned (.tuple #[.pointer none, .int .i64 er]) ∧ ∃ w1, R w1 ∧ w' = w1.setCell ⟨w.heap.size, 1, none⟩ (.pointer none) := by
  replace HC := Lib.hid HC
  replace hR := Lib.hid hR
  go_enter Tryz.func13, Tryz.ntmps13
  go_wp2_with fail
  refine HC.out.mono ?_
  rintro e w1 ⟨rfl, h1⟩
  have hb := hR.out _ h1
  replace h1 := Lib.hid h1
  have c1 := blk_cell hb 1 (by simp)
  have f1 := blk_free hb 1
  simp only [List.getElem_toArray, List.getElem_cons_zero, List.getElem_cons_succ] at c1
  clear hb HC hR
  rcases her with rfl | rfl
  · go_wp2_with fail
    go_ret2
    exact ⟨rfl, _, h1.out, rfl⟩
  · go_wp2_with fail
    go_ret2
    exact ⟨rfl, _, h1.out, rfl⟩
set_option maxRecDepth 100000 in
theorem rnewO_1 (q : Option Addr) (n par : Int) (w : World) (R : Nat → World → Prop) (hR : ∀ gL w', R gL w' → w'.heap[w.heap.size]? = some (.cells #[.int .i64 1, .pointer none, .pointer none, .pointer none, .pointer none, .pointer none] 122 (0, 0)))
    (HC : Calls Tryz.prog 59 #[.pointer q, .int .i64 n, .int .i64 par] (w.alloc (.cells #[.int .i64 1, .pointer none, .pointer none, .pointer none, .pointer none, .pointer none] 122)) fun e w' => ∃ gL, e = .returned (.tuple #[.pointer (some ⟨gL, 0, none⟩), .int .i64 0]) ∧ R gL w') :
    Calls Tryz.prog 13 #[.pointer q, .int .i64 1, .int .i64 n, .int .i64 par] w fun e w' => e = .returned (.tuple #[.pointer (some ⟨w.heap.size, 0, none⟩), .int .i64 0]) ∧ ∃ gL w1, R gL w1 ∧ w' = w1.setCell ⟨w.heap.size, 1, none⟩ (.pointer (some ⟨gL, 0, none⟩)) := by
  replace HC := Lib.hid HC
  replace hR := Lib.hid hR
  go_enter Tryz.func13, Tryz.ntmps13
  go_wp2_with fail
  refine HC.out.mono ?_
  rintro e w1 ⟨gL, rfl, h1⟩
  have hb := hR.out _ _ h1
  replace h1 := Lib.hid h1
  have c1 := blk_cell hb 1 (by simp)
  have f1 := blk_free hb 1
  simp only [List.getElem_toArray, List.getElem_cons_zero, List.getElem_cons_succ] at c1
  clear hb HC hR
  go_wp2_with fail
  go_ret2
  exact ⟨rfl, _, _, h1.out, rfl⟩
set_option maxRecDepth 100000 in
theorem rnewE_2 (q : Option Addr) (n par : Int) (w : World) (er : Int) (her : er = 1 ∨ er = 3) (R : World → Prop) (hR : ∀ w', R w' → w'.heap[w.heap.size]? = some (.cells #[.int .i64 2, .pointer none, .pointer none, .pointer none, .pointer none, .pointer none] 122 (0, 0)))
    (HC : Calls Tryz.prog 60 #[.pointer q, .int .i64 n] (w.alloc (.cells #[.int .i64 2, .pointer none, .pointer none, .pointer none, .pointer none, .pointer none] 122)) fun e w' => e = .returned (.tuple #[.pointer none, .int .i64 er]) ∧ R w') :
    Calls Tryz.prog 13 #[.pointer q, .int .i64 2, .int .i64 n, .int .i64 par] w fun e w' => e = .returned (.tuple #[.pointer none, .int .i64 er]) ∧ ∃ w1, R w1 ∧ w' = w1.setCell ⟨w.heap.size, 2, none⟩ (.pointer none) := by
  replace HC := Lib.hid HC
  replace hR := Lib.hid hR
  go_enter Tryz.func13, Tryz.ntmps13
  go_wp2_with fail
  refine HC.out.mono ?_
  rintro e w1 ⟨rfl, h1⟩
  have hb := hR.out _ h1
  replace h1 := Lib.hid h1
  have c1 := blk_cell hb 2 (by simp)
  have f1 := blk_free hb 2
  simp only [List.getElem_toArray, List.getElem_cons_zero, List.getElem_cons_succ] at c1
  clear hb HC hR
  rcases her with rfl | rfl
  · go_wp2_with fail
    go_ret2
    exact ⟨rfl, _, h1.out, rfl⟩
  · go_wp2_with fail
    go_ret2
    exact ⟨rfl, _, h1.out, rfl⟩
set_option maxRecDepth 100000 in
theorem rnewO_2 (q : Option Addr) (n par : Int) (w : World) (R : Nat → World → Prop) (hR : ∀ gL w', R gL w' → w'.heap[w.heap.size]? = some (.cells #[.int .i64 2, .pointer none, .pointer none, .pointer none, .pointer none, .pointer none] 122 (0, 0)))
    (HC : Calls Tryz.prog 60 #[.pointer q, .int .i64 n] (w.alloc (.cells #[.int .i64 2, .pointer none, .pointer none, .pointer none, .pointer none, .pointer none] 122)) fun e w' => ∃ gL, e = .returned (.tuple #[.pointer (some ⟨gL, 0, none⟩), .int .i64 0]) ∧ R gL w') :
    Calls Tryz.prog 13 #[.pointer q, .int .i64 2, .int .i64 n, .int .i64 par] w fun e w' => e = .returned (.tuple #[.pointer (some ⟨w.heap.size, 0, none⟩), .int .i64 0]) ∧ ∃ gL w1, R gL w1 ∧ w' = w1.setCell ⟨w.heap.size, 2, none⟩ (.pointer (some ⟨gL, 0, none⟩)) := by
  replace HC := Lib.hid HC
  replace hR := Lib.hid hR
  go_enter Tryz.func13, Tryz.ntmps13
  go_wp2_with fail
  refine HC.out.mono ?_
  rintro e w1 ⟨gL, rfl, h1⟩
  have hb := hR.out _ _ h1
  replace h1 := Lib.hid h1
  have c1 := blk_cell hb 2 (by simp)
  have f1 := blk_free hb 2
  simp only [List.getElem_toArray, List.getElem_cons_zero, List.getElem_cons_succ] at c1
  clear hb HC hR
  go_wp2_with fail
  go_ret2
  exact ⟨rfl, _, _, h1.out, rfl⟩
set_option maxRecDepth 100000 in
theorem rnewE_3 (q : Option Addr) (n par : Int) (w : World) (er : Int) (her : er = 1 ∨ er = 3) (R : World → Prop) (hR : ∀ w', R w' → w'.heap[w.heap.size]? = some (.cells #[.int .i64 3, .pointer none, .pointer none, .pointer none, .pointer none, .pointer none] 122 (0, 0)))
    (HC : Calls Tryz.prog 61 #[.pointer q, .int .i64 n, .int .i64 par] (w.alloc (.cells #[.int .i64 3, .pointer none, .pointer none, .pointer none, .pointer none, .pointer none] 122)) fun e w' => e = .returned (.tuple #[.pointer none, .int .i64 er]) ∧ R w') :
    Calls Tryz.prog 13 #[.pointer q, .int .i64 3, .int .i64 n, .int .i64 par] w fun e w' => e = .returned (.tuple #[.pointer none, .int .i64 er]) ∧ ∃ w1, R w1 ∧ w' = w1.setCell ⟨w.heap.size, 3, none⟩ (.pointer none) := by
  replace HC := Lib.hid HC
  replace hR := Lib.hid hR
  go_enter Tryz.func13, Tryz.ntmps13
  go_wp2_with fail
  refine HC.out.mono ?_
  rintro e w1 ⟨rfl, h1⟩
  have hb := hR.out _ h1
  replace h1 := Lib.hid h1
  have c1 := blk_cell hb 3 (by simp)
  have f1 := blk_free hb 3
  simp only [List.getElem_toArray, List.getElem_cons_zero, List.getElem_cons_succ] at c1
  clear hb HC hR
  rcases her with rfl | rfl
  · go_wp2_with fail
    go_ret2
    exact ⟨rfl, _, h1.out, rfl⟩
  · go_wp2_with fail
    go_ret2
    exact ⟨rfl, _, h1.out, rfl⟩
set_option maxRecDepth 100000 in
theorem rnewO_3 (q : Option Addr) (n par : Int) (w : World) (R : Nat → World → Prop) (hR : ∀ gL w', R gL w' → w'.heap[w.heap.size]? = some (.cells #[.int .i64 3, .pointer none, .pointer none, .pointer none, .pointer none, .pointer none] 122 (0, 0)))
    (HC : Calls Tryz.prog 61 #[.pointer q, .int .i64 n, .int .i64 par] (w.alloc (.cells #[.int .i64 3, .pointer none, .pointer none, .pointer none, .pointer none, .pointer none] 122)) fun e w' => ∃ gL, e = .returned (.tuple #[.pointer (some ⟨gL, 0, none⟩), .int .i64 0]) ∧ R gL w') :
    Calls Tryz.prog 13 #[.pointer q, .int .i64 3, .int .i64 n, .int .i64 par] w fun e w' => e = .returned (.tuple #[.pointer (some ⟨w.heap.size, 0, none⟩), .int .i64 0]) ∧ ∃ gL w1, R gL w1 ∧ w' = w1.setCell ⟨w.heap.size, 3, none⟩ (.pointer (some ⟨gL, 0, none⟩)) := by
  replace HC := Lib.hid HC
  replace hR := Lib.hid hR
  go_enter Tryz.func13, Tryz.ntmps13
  go_wp2_with fail
  refine HC.out.mono ?_
  rintro e w1 ⟨gL, rfl, h1⟩
  have hb := hR.out _ _ h1
  replace h1 := Lib.hid h1
  have c1 := blk_cell hb 3 (by simp)
  have f1 := blk_free hb 3
  simp only [List.getElem_toArray, List.getElem_cons_zero, List.getElem_cons_succ] at c1
  clear hb HC hR
  go_wp2_with fail
  go_ret2
  exact ⟨rfl, _, _, h1.out, rfl⟩
set_option maxRecDepth 100000 in
theorem rnewE_4 (q : Option Addr) (n par : Int) (w : World) (er : Int) (her : er = 1 ∨ er = 3) (R : World → Prop) (hR : ∀ w', R w' → w'.heap[w.heap.size]? = some (.cells #[.int .i64 4, .pointer none, .pointer none, .pointer none, .pointer none, .pointer none] 122 (0, 0)))
    (HC : Calls Tryz.prog 62 #[.pointer q, .int .i64 n] (w.alloc (.cells #[.int .i64 4, .pointer none, .pointer none, .pointer none, .pointer none, .pointer none] 122)) fun e w' => e = .returned (.tuple #[.pointer none, .int .i64 er]) ∧ R w') :
    Calls Tryz.prog 13 #[.pointer q, .int .i64 4, .int .i64 n, .int .i64 par] w fun e w' => e = .returned (.tuple #[.pointer none, .int .i64 er]) ∧ ∃ w1, R w1 ∧ w' = w1.setCell ⟨w.heap.size, 4, none⟩ (.pointer none) := by
  replace HC := Lib.hid HC
  replace hR := Lib.hid hR
  go_enter Tryz.func13, Tryz.ntmps13
  go_wp2_with fail
  refine HC.out.mono ?_
  rintro e w1 ⟨rfl, h1⟩
  have hb := hR.out _ h1
  replace h1 := Lib.hid h1
  have c1 := blk_cell hb 4 (by simp)
  have f1 := blk_free hb 4
  simp only [List.getElem_toArray, List.getElem_cons_zero, List.getElem_cons_succ] at c1
  clear hb HC hR
  rcases her with rfl | rfl
  · go_wp2_with fail
    go_ret2
    exact ⟨rfl, _, h1.out, rfl⟩
  · go_wp2_with fail
    go_ret2
    exact ⟨rfl, _, h1.out, rfl⟩
set_option maxRecDepth 100000 in
theorem rnewO_4 (q : Option Addr) (n par : Int) (w : World) (R : Nat → World → Prop) (hR : ∀ gL w', R gL w' → w'.heap[w.heap.size]? = some (.cells #[.int .i64 4, .pointer none, .pointer none, .pointer none, .pointer none, .pointer none] 122 (0, 0)))
    (HC : Calls Tryz.prog 62 #[.pointer q, .int .i64 n] (w.alloc (.cells #[.int .i64 4, .pointer none, .pointer none, .pointer none, .pointer none, .pointer none] 122)) fun e w' => ∃ gL, e = .returned (.tuple #[.pointer (some ⟨gL, 0, none⟩), .int .i64 0]) ∧ R gL w') :
    Calls Tryz.prog 13 #[.pointer q, .int .i64 4, .int .i64 n, .int .i64 par] w fun e w' => e = .returned (.tuple #[.pointer (some ⟨w.heap.size, 0, none⟩), .int .i64 0]) ∧ ∃ gL w1, R gL w1 ∧ w' = w1.setCell ⟨w.heap.size, 4, none⟩ (.pointer (some ⟨gL, 0, none⟩)) := by
  replace HC := Lib.hid HC
  replace hR := Lib.hid hR
  go_enter Tryz.func13, Tryz.ntmps13
  go_wp2_with fail
  refine HC.out.mono ?_
  rintro e w1 ⟨gL, rfl, h1⟩
  have hb := hR.out _ _ h1
  replace h1 := Lib.hid h1
  have c1 := blk_cell hb 4 (by simp)
  have f1 := blk_free hb 4
  simp only [List.getElem_toArray, List.getElem_cons_zero, List.getElem_cons_succ] at c1
  clear hb HC hR
  go_wp2_with fail
  go_ret2
  exact ⟨rfl, _, _, h1.out, rfl⟩
set_option maxRecDepth 100000 in
theorem rnewE_5 (q : Option Addr) (n par : Int) (w : World) (er : Int) (her : er = 1 ∨ er = 3) (R : World → Prop) (hR : ∀ w', R w' → w'.heap[w.heap.size]? = some (.cells #[.int .i64 5, .pointer none, .pointer none, .pointer none, .pointer none, .pointer none] 122 (0, 0)))
    (HC : Calls Tryz.prog 63 #[.pointer q, .int .i64 n] (w.alloc (.cells #[.int .i64 5, .pointer none, .pointer none, .pointer none, .pointer none, .pointer none] 122)) fun e w' => e = .returned (.tuple #[.pointer none, .int .i64 er]) ∧ R w') :
    Calls Tryz.prog 13 #[.pointer q, .int .i64 5, .int .i64 n, .int .i64 par] w fun e w' => e = .returned (.tuple #[.pointer none, .int .i64 er]) ∧ ∃ w1, R w1 ∧ w' = w1.setCell ⟨w.heap.size, 5, none⟩ (.pointer none) := by
  replace HC := Lib.hid HC
  replace hR := Lib.hid hR
  go_enter Tryz.func13, Tryz.ntmps13
  go_wp2_with fail
  refine HC.out.mono ?_
  rintro e w1 ⟨rfl, h1⟩
  have hb := hR.out _ h1
  replace h1 := Lib.hid h1
  have c1 := blk_cell hb 5 (by simp)
  have f1 := blk_free hb 5
  simp only [List.getElem_toArray, List.getElem_cons_zero, List.getElem_cons_succ] at c1
  clear hb HC hR
  rcases her with rfl | rfl
  · go_wp2_with fail
    go_ret2
    exact ⟨rfl, _, h1.out, rfl⟩
  · go_wp2_with fail
    go_ret2
    exact ⟨rfl, _, h1.out, rfl⟩
set_option maxRecDepth 100000 in
theorem rnewO_5 (q : Option Addr) (n par : Int) (w : World) (R : Nat → World → Prop) (hR : ∀ gL w', R gL w' → w'.heap[w.heap.size]? = some (.cells #[.int .i64 5, .pointer none, .pointer none, .pointer none, .pointer none, .pointer none] 122 (0, 0)))
    (HC : Calls Tryz.prog 63 #[.pointer q, .int .i64 n] (w.alloc (.cells #[.int .i64 5, .pointer none, .pointer none, .pointer none, .pointer none, .pointer none] 122)) fun e w' => ∃ gL, e = .returned (.tuple #[.pointer (some ⟨gL, 0, none⟩), .int .i64 0]) ∧ R gL w') :
    Calls Tryz.prog 13 #[.pointer q, .int .i64 5, .int .i64 n, .int .i64 par] w fun e w' => e = .returned (.tuple #[.pointer (some ⟨w.heap.size, 0, none⟩), .int .i64 0]) ∧ ∃ gL w1, R gL w1 ∧ w' = w1.setCell ⟨w.heap.size, 5, none⟩ (.pointer (some ⟨gL, 0, none⟩)) := by
  replace HC := Lib.hid HC
  replace hR := Lib.hid hR
  go_enter Tryz.func13, Tryz.ntmps13
  go_wp2_with fail
  refine HC.out.mono ?_
  rintro e w1 ⟨gL, rfl, h1⟩
  have hb := hR.out _ _ h1
  replace h1 := Lib.hid h1
  have c1 := blk_cell hb 5 (by simp)
  have f1 := blk_free hb 5
  simp only [List.getElem_toArray, List.getElem_cons_zero, List.getElem_cons_succ] at c1
  clear hb HC hR
  go_wp2_with fail
  go_ret2
  exact ⟨rfl, _, _, h1.out, rfl⟩
set_option maxRecDepth 100000 in
theorem rnewK (q : Option Addr) (kind n par : Int) (h : kind < 1 ∨ 5 < kind) (w : World) : Calls Tryz.prog 13 #[.pointer q, .int .i64 kind, .int .i64 n, .int .i64 par] w fun e w' => e = .returned (.tuple #[.pointer none, .int .i64 7]) ∧ Below w.heap.size w w' := by
  have e1 := ibeq_no (show ¬ kind = 1 by omega)
  have e2 := ibeq_no (show ¬ kind = 2 by omega)
  have e3 := ibeq_no (show ¬ kind = 3 by omega)
  have e4 := ibeq_no (show ¬ kind = 4 by omega)
  have e5 := ibeq_no (show ¬ kind = 5 by omega)
  clear h
  go_enter Tryz.func13, Tryz.ntmps13
  go_wp2_with fail
  go_ret2
  exact ⟨rfl, by first | exact below_new _ _ | exact (Below.refl _ _).alloc (Nat.le_refl _) _⟩
end Go.Proofs.YthffhhgaeolpgaaGreat.Fl

/- The document's lock of layer 20: New, whole. -/
namespace Go.Proofs.YthffhhgaeolpgaaGreat.Fl
open Go.RowKit Go.Proofs.YthffhhgaeolpgaaGreat.Ara Go.Proofs.YthffhhgaeolpgaaGreat.Lok

def bcs (k : Int) : Array Value := #[.int .i64 k, .pointer none, .pointer none, .pointer none, .pointer none, .pointer none]
def argsOk (kind n par : Int) : Prop := (1 ≤ n ∧ n ≤ 32) ∧ (kind = 1 → 1 ≤ par ∧ par ≤ 1024) ∧ (kind = 3 → 1 ≤ par ∧ par ≤ 32)
theorem rcs_set (gL : Nat) (p : PK) : rcs gL p = (bcs p.num).setIfInBounds p.num.toNat (.pointer (some ⟨gL, 0, none⟩)) := by cases p <;> rfl
section
variable (gr base : Nat) (w : World) (hgr : gr < w.heap.size) (k : Int)
theorem bcs_at : (w.alloc (.cells (bcs k) 122)).heap[w.heap.size]? = some (.cells (bcs k) 122 (0, 0)) := blk_new w (.cells (bcs k) 122)
include hgr
theorem bcs_keep {w1 : World} (h : RMs base [gr] (w.alloc (.cells (bcs k) 122)) w1) : w1.heap[w.heap.size]? = some (.cells (bcs k) 122 (0, 0)) :=
  (h.blk (bcs_at w k) (by decide) (by simp; omega)).trans (bcs_at w k)
theorem rfl_of {w1 : World} {gL hs : Nat} {p : PK} {ρ : Rf} {sp : List Sp} (hb : w1.heap[w.heap.size]? = some (.cells (bcs p.num) 122 (0, 0))) (hk : p.RAt w1 gL gr base hs ρ sp) (h1 : w.heap.size < gL) (h2 : w.heap.size < hs) :
    RFL (w1.setCell ⟨w.heap.size, p.num.toNat, none⟩ (.pointer (some ⟨gL, 0, none⟩))) w.heap.size gL gr base hs p ρ sp := by
  have hm : Mod [w.heap.size] w1 (w1.setCell ⟨w.heap.size, p.num.toNat, none⟩ (.pointer (some ⟨gL, 0, none⟩))) := (Mod.refl _ _).setCell (by simp) _
  refine ⟨by rw [rcs_set]; exact blk_set hb _ _, hk.mod hm (fun x hx => ?_) (by simp; omega) (by simp; omega), by omega, by omega⟩
  obtain rfl : x = w.heap.size := by simpa using hx
  exact ⟨by omega, not_int hb (by decide)⟩
end
theorem rms_in {base gr : Nat} {w W0 w1 : World} {p : Nat} {v : Value} (hgr : gr < w.heap.size) (hb : Below w.heap.size w W0) (h : RMs base [gr] W0 w1) (hp : w.heap.size ≤ p) (off : Nat) (hB : w.heap.size ≤ base ∨ base ≤ w.heap.size) : RMs base [gr] w (w1.setCell ⟨p, off, none⟩ v) := by
  have h1 : RMs base [gr] w w1 := (RMs.of_mod (Mod.of_below hb)).trans h
  refine ⟨h1.os, h1.tape, h1.output, by simpa [World.setCell] using h1.size, fun k hk hn hr => ?_⟩
  rw [← h1.block k hk hn hr]
  exact ((Mod.refl [p] w1).setCell (p := ⟨p, off, none⟩) (by simp) v).block k (Nat.lt_of_lt_of_le hk h1.size) (by simp; omega)
def RErr (er : Int) (gr base : Nat) (w : World) (e : Ending) (w' : World) : Prop := e = .returned (.tuple #[.pointer none, .int .i64 er]) ∧ RMs base [gr] w w'
section
variable (gr base : Nat) (ρ : Rf) (w : World) (H : RfAt w gr base ρ) (hgr : gr < w.heap.size) (hbs : base ≤ w.heap.size)
include hgr hbs
theorem err_of {k : Nat} {kd er : Int} {w' : World} {e : Ending} (h : e = .returned (.tuple #[.pointer none, .int .i64 er]) ∧ ∃ w1, RMs base [gr] (w.alloc (.cells (bcs kd) 122)) w1 ∧ w' = w1.setCell ⟨w.heap.size, k, none⟩ (.pointer none)) : RErr er gr base w e w' := by
  obtain ⟨he, w1, h1, rfl⟩ := h
  exact ⟨he, rms_in hgr (below_new _ _) h1 (Nat.le_refl _) _ (.inr hbs)⟩
theorem rbad_1 (n par : Int) (h : ¬ ((1 ≤ n ∧ n ≤ 32) ∧ 1 ≤ par ∧ par ≤ 1024)) : Calls Tryz.prog 13 #[.pointer (some ⟨gr, 0, none⟩), .int .i64 1, .int .i64 n, .int .i64 par] w (RErr 1 gr base w) :=
  (rnewE_1 (some ⟨gr, 0, none⟩) n par w 1 (.inl rfl) (fun w' => RMs base [gr] (w.alloc (.cells (bcs 1) 122)) w') (fun w' h => bcs_keep gr base w hgr 1 h)
    ((rn15_arg (some ⟨gr, 0, none⟩) n par h _).mono fun e w' ⟨a, b⟩ => ⟨a, by subst b; exact RMs.refl _ _ _⟩)).mono fun e w' h => err_of gr base w hgr hbs h
theorem rbad_2 (n par : Int) (h : ¬ (1 ≤ n ∧ n ≤ 32)) : Calls Tryz.prog 13 #[.pointer (some ⟨gr, 0, none⟩), .int .i64 2, .int .i64 n, .int .i64 par] w (RErr 1 gr base w) :=
  (rnewE_2 (some ⟨gr, 0, none⟩) n par w 1 (.inl rfl) (fun w' => RMs base [gr] (w.alloc (.cells (bcs 2) 122)) w') (fun w' h => bcs_keep gr base w hgr 2 h)
    ((rn16_arg (some ⟨gr, 0, none⟩) n h _).mono fun e w' ⟨a, b⟩ => ⟨a, by subst b; exact RMs.refl _ _ _⟩)).mono fun e w' h => err_of gr base w hgr hbs h
theorem rbad_3 (n par : Int) (h : ¬ ((1 ≤ n ∧ n ≤ 32) ∧ 1 ≤ par ∧ par ≤ 32)) : Calls Tryz.prog 13 #[.pointer (some ⟨gr, 0, none⟩), .int .i64 3, .int .i64 n, .int .i64 par] w (RErr 1 gr base w) :=
  (rnewE_3 (some ⟨gr, 0, none⟩) n par w 1 (.inl rfl) (fun w' => RMs base [gr] (w.alloc (.cells (bcs 3) 122)) w') (fun w' h => bcs_keep gr base w hgr 3 h)
    ((rn17_arg (some ⟨gr, 0, none⟩) n par h _).mono fun e w' ⟨a, b⟩ => ⟨a, by subst b; exact RMs.refl _ _ _⟩)).mono fun e w' h => err_of gr base w hgr hbs h
theorem rbad_4 (n par : Int) (h : ¬ (1 ≤ n ∧ n ≤ 32)) : Calls Tryz.prog 13 #[.pointer (some ⟨gr, 0, none⟩), .int .i64 4, .int .i64 n, .int .i64 par] w (RErr 1 gr base w) :=
  (rnewE_4 (some ⟨gr, 0, none⟩) n par w 1 (.inl rfl) (fun w' => RMs base [gr] (w.alloc (.cells (bcs 4) 122)) w') (fun w' h => bcs_keep gr base w hgr 4 h)
    ((rn18_arg (some ⟨gr, 0, none⟩) n h _).mono fun e w' ⟨a, b⟩ => ⟨a, by subst b; exact RMs.refl _ _ _⟩)).mono fun e w' h => err_of gr base w hgr hbs h
theorem rbad_5 (n par : Int) (h : ¬ (1 ≤ n ∧ n ≤ 32)) : Calls Tryz.prog 13 #[.pointer (some ⟨gr, 0, none⟩), .int .i64 5, .int .i64 n, .int .i64 par] w (RErr 1 gr base w) :=
  (rnewE_5 (some ⟨gr, 0, none⟩) n par w 1 (.inl rfl) (fun w' => RMs base [gr] (w.alloc (.cells (bcs 5) 122)) w') (fun w' h => bcs_keep gr base w hgr 5 h)
    ((rn19_arg (some ⟨gr, 0, none⟩) n h _).mono fun e w' ⟨a, b⟩ => ⟨a, by subst b; exact RMs.refl _ _ _⟩)).mono fun e w' h => err_of gr base w hgr hbs h
include H
omit hgr hbs in
theorem rf_new (kd : Int) : RfAt (w.alloc (.cells (bcs kd) 122)) gr base ρ := rf_mod (S := []) H (Mod.of_below (below_new _ _)) (by simp)
theorem rfull_1 (n par : Int) (n1 : 1 ≤ n) (n2 : n ≤ 32) (m1 : 1 ≤ par) (m2 : par ≤ 1024) (ht : ρ.take 1 = ((0, 3), ρ)) : Calls Tryz.prog 13 #[.pointer (some ⟨gr, 0, none⟩), .int .i64 1, .int .i64 n, .int .i64 par] w (RErr 3 gr base w) :=
  (rnewE_1 (some ⟨gr, 0, none⟩) n par w 3 (.inr rfl) (fun w' => RMs base [gr] (w.alloc (.cells (bcs 1) 122)) w') (fun w' h => bcs_keep gr base w hgr 1 h)
    ((rn15_full gr base ρ _ (rf_new gr base ρ w H 1) n n1 n2 par m1 m2 ht).mono fun e w' h => ⟨h.1, h.2.2⟩)).mono fun e w' h => err_of gr base w hgr hbs h
theorem rfull_2 (n par : Int) (n1 : 1 ≤ n) (n2 : n ≤ 32) (ht : ρ.take 2 = ((0, 3), ρ)) : Calls Tryz.prog 13 #[.pointer (some ⟨gr, 0, none⟩), .int .i64 2, .int .i64 n, .int .i64 par] w (RErr 3 gr base w) :=
  (rnewE_2 (some ⟨gr, 0, none⟩) n par w 3 (.inr rfl) (fun w' => RMs base [gr] (w.alloc (.cells (bcs 2) 122)) w') (fun w' h => bcs_keep gr base w hgr 2 h)
    ((rn16_full gr base ρ _ (rf_new gr base ρ w H 2) n n1 n2 ht).mono fun e w' h => ⟨h.1, h.2.2⟩)).mono fun e w' h => err_of gr base w hgr hbs h
theorem rfull_3 (n par : Int) (n1 : 1 ≤ n) (n2 : n ≤ 32) (m1 : 1 ≤ par) (m2 : par ≤ 32) (ht : ρ.take (1 + par) = ((0, 3), ρ)) : Calls Tryz.prog 13 #[.pointer (some ⟨gr, 0, none⟩), .int .i64 3, .int .i64 n, .int .i64 par] w (RErr 3 gr base w) :=
  (rnewE_3 (some ⟨gr, 0, none⟩) n par w 3 (.inr rfl) (fun w' => RMs base [gr] (w.alloc (.cells (bcs 3) 122)) w') (fun w' h => bcs_keep gr base w hgr 3 h)
    ((rn17_full gr base ρ _ (rf_new gr base ρ w H 3) n n1 n2 par m1 m2 ht).mono fun e w' h => ⟨h.1, h.2.2⟩)).mono fun e w' h => err_of gr base w hgr hbs h
theorem rfull_4 (n par : Int) (n1 : 1 ≤ n) (n2 : n ≤ 32) (ht : ρ.take (1 + 2 * n) = ((0, 3), ρ)) : Calls Tryz.prog 13 #[.pointer (some ⟨gr, 0, none⟩), .int .i64 4, .int .i64 n, .int .i64 par] w (RErr 3 gr base w) :=
  (rnewE_4 (some ⟨gr, 0, none⟩) n par w 3 (.inr rfl) (fun w' => RMs base [gr] (w.alloc (.cells (bcs 4) 122)) w') (fun w' h => bcs_keep gr base w hgr 4 h)
    ((rn18_full gr base ρ _ (rf_new gr base ρ w H 4) n n1 n2 ht).mono fun e w' h => ⟨h.1, h.2.2⟩)).mono fun e w' h => err_of gr base w hgr hbs h
theorem rfull_5 (n par : Int) (n1 : 1 ≤ n) (n2 : n ≤ 32) (ht : ρ.take (n + 2) = ((0, 3), ρ)) : Calls Tryz.prog 13 #[.pointer (some ⟨gr, 0, none⟩), .int .i64 5, .int .i64 n, .int .i64 par] w (RErr 3 gr base w) :=
  (rnewE_5 (some ⟨gr, 0, none⟩) n par w 3 (.inr rfl) (fun w' => RMs base [gr] (w.alloc (.cells (bcs 5) 122)) w') (fun w' h => bcs_keep gr base w hgr 5 h)
    ((rn19_full gr base ρ _ (rf_new gr base ρ w H 5) n n1 n2 ht).mono fun e w' h => ⟨h.1, h.2.2⟩)).mono fun e w' h => err_of gr base w hgr hbs h
def RNew (p : PK) (sp : List Sp) (ρ1 : Rf) (gr base : Nat) (w : World) (e : Ending) (w' : World) : Prop :=
  ∃ gL hs, e = .returned (.tuple #[.pointer (some ⟨w.heap.size, 0, none⟩), .int .i64 0]) ∧ RFL w' w.heap.size gL gr base hs p ρ1 sp ∧ (w.heap.size ≤ gL ∧ w.heap.size ≤ hs) ∧ RMs base [gr] w w'
omit H in
theorem ok_of {p : PK} {ρ1 : Rf} {sp : List Sp} {w' : World} {e : Ending} (h : e = .returned (.tuple #[.pointer (some ⟨w.heap.size, 0, none⟩), .int .i64 0]) ∧ ∃ gL w1, (∃ hs, p.RAt w1 gL gr base hs ρ1 sp ∧ (w.alloc (.cells (bcs p.num) 122)).heap.size ≤ gL ∧ (w.alloc (.cells (bcs p.num) 122)).heap.size ≤ hs ∧ RMs base [gr] (w.alloc (.cells (bcs p.num) 122)) w1) ∧ w' = w1.setCell ⟨w.heap.size, p.num.toNat, none⟩ (.pointer (some ⟨gL, 0, none⟩))) : RNew p sp ρ1 gr base w e w' := by
  obtain ⟨he, gL, w1, ⟨hs, h1, h2, h3, h4⟩, rfl⟩ := h
  simp at h2 h3
  exact ⟨gL, hs, he, rfl_of gr base w hgr (bcs_keep gr base w hgr p.num h4) h1 (by omega) (by omega), ⟨by omega, by omega⟩, rms_in hgr (below_new _ _) h4 (Nat.le_refl _) _ (.inr hbs)⟩
section
variable (n : Nat) (n1 : 1 ≤ n) (n2 : n ≤ 32) (par next : Int) (x1 : 1 ≤ next) (x2 : next ≤ 4096) (ρ1 : Rf) (ho : ρ1.ops < 1000000)
include n1 n2 x1 x2 ho
omit x1 x2 ho in
theorem rok_1 (m1 : 1 ≤ par) (m2 : par ≤ 1024) (ht : ρ.take 1 = ((next, 0), ρ1)) : Calls Tryz.prog 13 #[.pointer (some ⟨gr, 0, none⟩), .int .i64 1, .int .i64 (n : Int), .int .i64 par] w (RNew (.tas ⟨next, par⟩) (zeros n) ρ1 gr base w) := by
  have hgr2 : gr < (w.alloc (.cells (bcs 1) 122)).heap.size := by simp; omega
  exact (rnewO_1 (some ⟨gr, 0, none⟩) n par w (fun gL w' => ∃ hs, (PK.tas ⟨next, par⟩).RAt w' gL gr base hs ρ1 (zeros n) ∧ (w.alloc (.cells (bcs 1) 122)).heap.size ≤ gL ∧ (w.alloc (.cells (bcs 1) 122)).heap.size ≤ hs ∧ RMs base [gr] (w.alloc (.cells (bcs 1) 122)) w') (fun gL w' ⟨hs, h⟩ => bcs_keep gr base w hgr 1 h.2.2.2)
    ((rn15_ok gr base ρ ρ1 _ (rf_new gr base ρ w H 1) hgr2 n n1 n2 next par m1 m2 ht).mono fun e w' ⟨gL, hs, a, b, c, d, f⟩ => ⟨gL, a, hs, b, c, d, f⟩)).mono fun e w' h => ok_of gr base w hgr hbs h
omit ho in
theorem rok_2 (ht : ρ.take 2 = ((next, 0), ρ1)) : Calls Tryz.prog 13 #[.pointer (some ⟨gr, 0, none⟩), .int .i64 2, .int .i64 (n : Int), .int .i64 par] w (RNew (.tic ⟨next⟩) (zeros n) ρ1 gr base w) := by
  have hgr2 : gr < (w.alloc (.cells (bcs 2) 122)).heap.size := by simp; omega
  exact (rnewO_2 (some ⟨gr, 0, none⟩) n par w (fun gL w' => ∃ hs, (PK.tic ⟨next⟩).RAt w' gL gr base hs ρ1 (zeros n) ∧ (w.alloc (.cells (bcs 2) 122)).heap.size ≤ gL ∧ (w.alloc (.cells (bcs 2) 122)).heap.size ≤ hs ∧ RMs base [gr] (w.alloc (.cells (bcs 2) 122)) w') (fun gL w' ⟨hs, h⟩ => bcs_keep gr base w hgr 2 h.2.2.2)
    ((rn16_ok gr base ρ ρ1 _ (rf_new gr base ρ w H 2) hgr2 n n1 n2 next x1 x2 ht).mono fun e w' ⟨gL, hs, a, b, c, d, f⟩ => ⟨gL, a, hs, b, c, d, f⟩)).mono fun e w' h => ok_of gr base w hgr hbs h
theorem rok_3 (m1 : 1 ≤ par) (m2 : par ≤ 32) (ht : ρ.take (1 + par) = ((next, 0), ρ1)) : Calls Tryz.prog 13 #[.pointer (some ⟨gr, 0, none⟩), .int .i64 3, .int .i64 (n : Int), .int .i64 par] w (RNew (.par ⟨next, par⟩) (zeros n) (ρ1.op 2 (Pt.place ⟨next, par⟩ 0) true 1) gr base w) := by
  have hgr2 : gr < (w.alloc (.cells (bcs 3) 122)).heap.size := by simp; omega
  exact (rnewO_3 (some ⟨gr, 0, none⟩) n par w (fun gL w' => ∃ hs, (PK.par ⟨next, par⟩).RAt w' gL gr base hs (ρ1.op 2 (Pt.place ⟨next, par⟩ 0) true 1) (zeros n) ∧ (w.alloc (.cells (bcs 3) 122)).heap.size ≤ gL ∧ (w.alloc (.cells (bcs 3) 122)).heap.size ≤ hs ∧ RMs base [gr] (w.alloc (.cells (bcs 3) 122)) w') (fun gL w' ⟨hs, h⟩ => bcs_keep gr base w hgr 3 h.2.2.2)
    ((rn17_ok gr base ρ ρ1 _ (rf_new gr base ρ w H 3) hgr2 n n1 n2 next par m1 m2 x1 x2 ho ht).mono fun e w' ⟨gL, hs, a, b, c, d, f⟩ => ⟨gL, a, hs, b, c, d, f⟩)).mono fun e w' h => ok_of gr base w hgr hbs h
omit x1 x2 ho in
theorem rok_4 (ht : ρ.take (1 + 2 * (n : Int)) = ((next, 0), ρ1)) : Calls Tryz.prog 13 #[.pointer (some ⟨gr, 0, none⟩), .int .i64 4, .int .i64 (n : Int), .int .i64 par] w (RNew (.mcs ⟨next⟩) (zeros n) ρ1 gr base w) := by
  have hgr2 : gr < (w.alloc (.cells (bcs 4) 122)).heap.size := by simp; omega
  exact (rnewO_4 (some ⟨gr, 0, none⟩) n par w (fun gL w' => ∃ hs, (PK.mcs ⟨next⟩).RAt w' gL gr base hs ρ1 (zeros n) ∧ (w.alloc (.cells (bcs 4) 122)).heap.size ≤ gL ∧ (w.alloc (.cells (bcs 4) 122)).heap.size ≤ hs ∧ RMs base [gr] (w.alloc (.cells (bcs 4) 122)) w') (fun gL w' ⟨hs, h⟩ => bcs_keep gr base w hgr 4 h.2.2.2)
    ((rn18_ok gr base ρ ρ1 _ (rf_new gr base ρ w H 4) hgr2 n n1 n2 next ht).mono fun e w' ⟨gL, hs, a, b, c, d, f⟩ => ⟨gL, a, hs, b, c, d, f⟩)).mono fun e w' h => ok_of gr base w hgr hbs h
omit x1 x2 in
theorem rok_5 (ht : ρ.take ((n : Int) + 2) = ((next, 0), ρ1)) : Calls Tryz.prog 13 #[.pointer (some ⟨gr, 0, none⟩), .int .i64 5, .int .i64 (n : Int), .int .i64 par] w (RNew (.clh ⟨next⟩) (Cl.first0 n) (ρ1.op 2 next true ((n : Int) + 1)) gr base w) := by
  have hgr2 : gr < (w.alloc (.cells (bcs 5) 122)).heap.size := by simp; omega
  exact (rnewO_5 (some ⟨gr, 0, none⟩) n par w (fun gL w' => ∃ hs, (PK.clh ⟨next⟩).RAt w' gL gr base hs (ρ1.op 2 next true ((n : Int) + 1)) (Cl.first0 n) ∧ (w.alloc (.cells (bcs 5) 122)).heap.size ≤ gL ∧ (w.alloc (.cells (bcs 5) 122)).heap.size ≤ hs ∧ RMs base [gr] (w.alloc (.cells (bcs 5) 122)) w') (fun gL w' ⟨hs, h⟩ => bcs_keep gr base w hgr 5 h.2.2.2)
    ((Cl.rn19_ok gr base ρ ρ1 _ (rf_new gr base ρ w H 5) hgr2 n n1 n2 next ho ht).mono fun e w' ⟨gL, hs, a, b, c, d, f⟩ => ⟨gL, a, hs, b, c, d, f⟩)).mono fun e w' h => ok_of gr base w hgr hbs h
end
end
end Go.Proofs.YthffhhgaeolpgaaGreat.Fl

/- Package flat: New's errors, Size and Door for all arguments; the document's too. -/
namespace Go.Proofs.YthffhhgaeolpgaaGreat.Fl
open Go.RowKit Go.Proofs.YthffhhgaeolpgaaGreat.Ara Go.Proofs.YthffhhgaeolpgaaGreat.Lok

def PErr (er : Int) (ga ha : Nat) (σ : Ar) (w : World) (e : Ending) (w' : World) : Prop := e = .returned (.tuple #[.pointer none, .int .i64 er]) ∧ ArAt w' ga ha σ ∧ Mod [ga, ha] w w'
theorem pn15_arg (q : Option Addr) (n most : Int) (h : ¬ ((1 ≤ n ∧ n ≤ 32) ∧ 1 ≤ most ∧ most ≤ 1024)) (w : World) : Calls Tryz.prog 54 #[.pointer q, .int .i64 n, .int .i64 most] w fun e w' => e = .returned (.tuple #[.pointer none, .int .i64 1]) ∧ w' = w := by
  rcases (show n < 1 ∨ (1 ≤ n ∧ 32 < n) ∨ (1 ≤ n ∧ n ≤ 32 ∧ most < 1) ∨ (1 ≤ n ∧ n ≤ 32 ∧ 1 ≤ most ∧ 1024 < most) by omega) with h1 | ⟨h1, h2⟩ | ⟨h1, h2, h3⟩ | ⟨h1, h2, h3, h4⟩
  · go_enter Tryz.func54, Tryz.ntmps54
    go_wp2_with fail
    go_ret2
    exact ⟨rfl, by trivial⟩
  · have d1 : decide (n < 1) = false := decide_eq_false (by omega)
    go_enter Tryz.func54, Tryz.ntmps54
    go_wp2_with fail
    go_ret2
    exact ⟨rfl, by trivial⟩
  · have d1 : decide (n < 1) = false := decide_eq_false (by omega)
    have d2 : decide (32 < n) = false := decide_eq_false (by omega)
    go_enter Tryz.func54, Tryz.ntmps54
    go_wp2_with fail
    go_ret2
    exact ⟨rfl, by trivial⟩
  · have d1 : decide (n < 1) = false := decide_eq_false (by omega)
    have d2 : decide (32 < n) = false := decide_eq_false (by omega)
    have d3 : decide (most < 1) = false := decide_eq_false (by omega)
    go_enter Tryz.func54, Tryz.ntmps54
    go_wp2_with fail
    go_ret2
    exact ⟨rfl, by trivial⟩
theorem pn16_arg (q : Option Addr) (n : Int) (h : ¬ (1 ≤ n ∧ n ≤ 32)) (w : World) : Calls Tryz.prog 55 #[.pointer q, .int .i64 n] w fun e w' => e = .returned (.tuple #[.pointer none, .int .i64 1]) ∧ w' = w := by
  rcases (show n < 1 ∨ (1 ≤ n ∧ 32 < n) by omega) with h1 | ⟨h1, h2⟩
  · go_enter Tryz.func55, Tryz.ntmps55
    go_wp2_with fail
    go_ret2
    exact ⟨rfl, by trivial⟩
  · have d1 : decide (n < 1) = false := decide_eq_false (by omega)
    go_enter Tryz.func55, Tryz.ntmps55
    go_wp2_with fail
    go_ret2
    exact ⟨rfl, by trivial⟩
theorem may_no (n : Int) (h : ¬ (1 ≤ n ∧ n ≤ 32)) (w : World) : Calls Tryz.prog 82 #[.int .i64 n] w fun e w' => e = .returned (.bool false) ∧ w' = w := by
  by_cases h1 : 1 ≤ n
  · have h2 : ¬ n ≤ 32 := by omega
    go_enter Tryz.func82, Tryz.ntmps82
    go_wp2_with fail
    go_ret
    exact ⟨rfl, rfl⟩
  · go_enter Tryz.func82, Tryz.ntmps82
    go_wp2_with fail
    go_ret
    exact ⟨rfl, rfl⟩
theorem pn17_arg (q : Option Addr) (n parts : Int) (h : ¬ ((1 ≤ n ∧ n ≤ 32) ∧ 1 ≤ parts ∧ parts ≤ 32)) (w : World) : Calls Tryz.prog 56 #[.pointer q, .int .i64 n, .int .i64 parts] w fun e w' => e = .returned (.tuple #[.pointer none, .int .i64 1]) ∧ w' = w := by
  by_cases h1 : 1 ≤ n ∧ n ≤ 32
  · have HN := Lib.hid (may_no parts (by omega) w)
    go_enter Tryz.func56, Tryz.ntmps56
    go_wp2_with fail
    refine (Pt.may_yes n _ h1.1 h1.2).mono ?_
    rintro e wx ⟨rfl, hwx⟩
    obtain rfl := hwx.symm
    go_wp2_with fail
    refine (HN.out).mono ?_
    rintro e wx ⟨rfl, hwx⟩
    obtain rfl := hwx.symm
    go_wp2_with fail
    go_ret2
    exact ⟨rfl, by trivial⟩
  · have HN := Lib.hid (may_no n h1 w)
    go_enter Tryz.func56, Tryz.ntmps56
    go_wp2_with fail
    refine (HN.out).mono ?_
    rintro e wx ⟨rfl, hwx⟩
    obtain rfl := hwx.symm
    go_wp2_with fail
    go_ret2
    exact ⟨rfl, by trivial⟩
theorem pn18_arg (q : Option Addr) (n : Int) (h : ¬ (1 ≤ n ∧ n ≤ 32)) (w : World) : Calls Tryz.prog 57 #[.pointer q, .int .i64 n] w fun e w' => e = .returned (.tuple #[.pointer none, .int .i64 1]) ∧ w' = w := by
  rcases (show n < 1 ∨ (1 ≤ n ∧ 32 < n) by omega) with h1 | ⟨h1, h2⟩
  · go_enter Tryz.func57, Tryz.ntmps57
    go_wp2_with fail
    go_ret2
    exact ⟨rfl, by trivial⟩
  · have d1 : decide (n < 1) = false := decide_eq_false (by omega)
    go_enter Tryz.func57, Tryz.ntmps57
    go_wp2_with fail
    go_ret2
    exact ⟨rfl, by trivial⟩
theorem pn19_arg (q : Option Addr) (n : Int) (h : ¬ (1 ≤ n ∧ n ≤ 32)) (w : World) : Calls Tryz.prog 58 #[.pointer q, .int .i64 n] w fun e w' => e = .returned (.tuple #[.pointer none, .int .i64 1]) ∧ w' = w := by
  rcases (show n < 1 ∨ (1 ≤ n ∧ 32 < n) by omega) with h1 | ⟨h1, h2⟩
  · go_enter Tryz.func58, Tryz.ntmps58
    go_wp2_with fail
    go_ret2
    exact ⟨rfl, by trivial⟩
  · have d1 : decide (n < 1) = false := decide_eq_false (by omega)
    go_enter Tryz.func58, Tryz.ntmps58
    go_wp2_with fail
    go_ret2
    exact ⟨rfl, by trivial⟩
section
variable (ga ha : Nat) (σ : Ar) (w : World) (H : ArAt w ga ha σ) (n : Int) (n1 : 1 ≤ n) (n2 : n ≤ 32)
include H n1 n2
theorem pn15_full (most : Int) (m1 : 1 ≤ most) (m2 : most ≤ 1024) (ht : σ.take 1 = ((0, 3), σ)) : Calls Tryz.prog 54 #[.pointer (some ⟨ga, 0, none⟩), .int .i64 n, .int .i64 most] w (PErr 3 ga ha σ w) := by
  have HT := take_any ga ha σ w H 1
  have d3 : decide (most < 1) = false := decide_eq_false (by omega)
  have d4 : decide (1024 < most) = false := decide_eq_false (by omega)
  rw [ht] at HT
  replace HT := Lib.hid HT
  clear H ht
  have d1 : decide (n < 1) = false := decide_eq_false (by omega)
  have d2 : decide (32 < n) = false := decide_eq_false (by omega)
  go_enter Tryz.func54, Tryz.ntmps54
  go_wp2_with fail
  refine HT.out.mono ?_
  rintro e w2 ⟨rfl, h2, hm2⟩
  have H2 := Lib.hid h2
  have HM := Lib.hid hm2
  clear h2 hm2
  go_wp2_with fail
  go_ret2
  exact ⟨rfl, H2.out, HM.out⟩
theorem pn16_full (ht : σ.take 2 = ((0, 3), σ)) : Calls Tryz.prog 55 #[.pointer (some ⟨ga, 0, none⟩), .int .i64 n] w (PErr 3 ga ha σ w) := by
  have HT := take_any ga ha σ w H 2
  rw [ht] at HT
  replace HT := Lib.hid HT
  clear H ht
  have d1 : decide (n < 1) = false := decide_eq_false (by omega)
  have d2 : decide (32 < n) = false := decide_eq_false (by omega)
  go_enter Tryz.func55, Tryz.ntmps55
  go_wp2_with fail
  refine HT.out.mono ?_
  rintro e w2 ⟨rfl, h2, hm2⟩
  have H2 := Lib.hid h2
  have HM := Lib.hid hm2
  clear h2 hm2
  go_wp2_with fail
  go_ret2
  exact ⟨rfl, H2.out, HM.out⟩
theorem pn17_full (parts : Int) (m1 : 1 ≤ parts) (m2 : parts ≤ 32) (ht : σ.take (1 + parts) = ((0, 3), σ)) : Calls Tryz.prog 56 #[.pointer (some ⟨ga, 0, none⟩), .int .i64 n, .int .i64 parts] w (PErr 3 ga ha σ w) := by
  have HT := take_any ga ha σ w H (1 + parts)
  have e1 : IntKind.i64.wrap (1 + parts) = 1 + parts := IntWalk.i64_in _ (by omega)
  rw [ht] at HT
  replace HT := Lib.hid HT
  clear H ht
  go_enter Tryz.func56, Tryz.ntmps56
  go_wp2_with fail
  refine (Pt.may_yes n _ n1 n2).mono ?_
  rintro e wx ⟨rfl, hwx⟩
  obtain rfl := hwx.symm
  go_wp2_with fail
  refine (Pt.may_yes parts _ m1 m2).mono ?_
  rintro e wx ⟨rfl, hwx⟩
  obtain rfl := hwx.symm
  go_wp2_with fail
  refine HT.out.mono ?_
  rintro e w2 ⟨rfl, h2, hm2⟩
  have H2 := Lib.hid h2
  have HM := Lib.hid hm2
  clear h2 hm2
  go_wp2_with fail
  go_ret2
  exact ⟨rfl, H2.out, HM.out⟩
theorem pn18_full (ht : σ.take (1 + 2 * n) = ((0, 3), σ)) : Calls Tryz.prog 57 #[.pointer (some ⟨ga, 0, none⟩), .int .i64 n] w (PErr 3 ga ha σ w) := by
  have HT := take_any ga ha σ w H (1 + 2 * n)
  have e1 : IntKind.i64.wrap (2 * n) = 2 * n := IntWalk.i64_in _ (by omega)
  have e2 : IntKind.i64.wrap (1 + 2 * n) = 1 + 2 * n := IntWalk.i64_in _ (by omega)
  rw [ht] at HT
  replace HT := Lib.hid HT
  clear H ht
  have d1 : decide (n < 1) = false := decide_eq_false (by omega)
  have d2 : decide (32 < n) = false := decide_eq_false (by omega)
  go_enter Tryz.func57, Tryz.ntmps57
  go_wp2_with fail
  refine HT.out.mono ?_
  rintro e w2 ⟨rfl, h2, hm2⟩
  have H2 := Lib.hid h2
  have HM := Lib.hid hm2
  clear h2 hm2
  go_wp2_with fail
  go_ret2
  exact ⟨rfl, H2.out, HM.out⟩
theorem pn19_full (ht : σ.take (n + 2) = ((0, 3), σ)) : Calls Tryz.prog 58 #[.pointer (some ⟨ga, 0, none⟩), .int .i64 n] w (PErr 3 ga ha σ w) := by
  have HT := take_any ga ha σ w H (n + 2)
  have e1 : IntKind.i64.wrap (n + 2) = n + 2 := IntWalk.i64_in _ (by omega)
  rw [ht] at HT
  replace HT := Lib.hid HT
  clear H ht
  have d1 : decide (n < 1) = false := decide_eq_false (by omega)
  have d2 : decide (32 < n) = false := decide_eq_false (by omega)
  go_enter Tryz.func58, Tryz.ntmps58
  go_wp2_with fail
  refine HT.out.mono ?_
  rintro e w2 ⟨rfl, h2, hm2⟩
  have H2 := Lib.hid h2
  have HM := Lib.hid hm2
  clear h2 hm2
  go_wp2_with fail
  go_ret2
  exact ⟨rfl, H2.out, HM.out⟩
end
set_option maxRecDepth 100000 in
theorem pnewE_1 (q : Option Addr) (n par : Int) (w : World) (er : Int) (her : er = 1 ∨ er = 3) (R : World → Prop) (HC : Calls Tryz.prog 54 #[.pointer q, .int .i64 n, .int .i64 par] w fun e w' => e = .returned (.tuple #[.pointer none, .int .i64 er]) ∧ R w') :
    Calls Tryz.prog 12 #[.pointer q, .int .i64 1, .int .i64 n, .int .i64 par] w fun e w' => e = .returned (.tuple #[.pointer none, .int .i64 er]) ∧ R w' := by
  replace HC := Lib.hid HC
  rcases her with rfl | rfl
  · go_enter Tryz.func12, Tryz.ntmps12
    go_wp2_with fail
    refine HC.out.mono ?_
    rintro e w1 ⟨rfl, h1⟩
    replace h1 := Lib.hid h1
    go_wp2_with fail
    go_ret2
    exact ⟨rfl, h1.out⟩
  · go_enter Tryz.func12, Tryz.ntmps12
    go_wp2_with fail
    refine HC.out.mono ?_
    rintro e w1 ⟨rfl, h1⟩
    replace h1 := Lib.hid h1
    go_wp2_with fail
    go_ret2
    exact ⟨rfl, h1.out⟩
set_option maxRecDepth 100000 in
theorem pnewE_2 (q : Option Addr) (n par : Int) (w : World) (er : Int) (her : er = 1 ∨ er = 3) (R : World → Prop) (HC : Calls Tryz.prog 55 #[.pointer q, .int .i64 n] w fun e w' => e = .returned (.tuple #[.pointer none, .int .i64 er]) ∧ R w') :
    Calls Tryz.prog 12 #[.pointer q, .int .i64 2, .int .i64 n, .int .i64 par] w fun e w' => e = .returned (.tuple #[.pointer none, .int .i64 er]) ∧ R w' := by
  replace HC := Lib.hid HC
  rcases her with rfl | rfl
  · go_enter Tryz.func12, Tryz.ntmps12
    go_wp2_with fail
    refine HC.out.mono ?_
    rintro e w1 ⟨rfl, h1⟩
    replace h1 := Lib.hid h1
    go_wp2_with fail
    go_ret2
    exact ⟨rfl, h1.out⟩
  · go_enter Tryz.func12, Tryz.ntmps12
    go_wp2_with fail
    refine HC.out.mono ?_
    rintro e w1 ⟨rfl, h1⟩
    replace h1 := Lib.hid h1
    go_wp2_with fail
    go_ret2
    exact ⟨rfl, h1.out⟩
set_option maxRecDepth 100000 in
theorem pnewE_3 (q : Option Addr) (n par : Int) (w : World) (er : Int) (her : er = 1 ∨ er = 3) (R : World → Prop) (HC : Calls Tryz.prog 56 #[.pointer q, .int .i64 n, .int .i64 par] w fun e w' => e = .returned (.tuple #[.pointer none, .int .i64 er]) ∧ R w') :
    Calls Tryz.prog 12 #[.pointer q, .int .i64 3, .int .i64 n, .int .i64 par] w fun e w' => e = .returned (.tuple #[.pointer none, .int .i64 er]) ∧ R w' := by
  replace HC := Lib.hid HC
  rcases her with rfl | rfl
  · go_enter Tryz.func12, Tryz.ntmps12
    go_wp2_with fail
    refine HC.out.mono ?_
    rintro e w1 ⟨rfl, h1⟩
    replace h1 := Lib.hid h1
    go_wp2_with fail
    go_ret2
    exact ⟨rfl, h1.out⟩
  · go_enter Tryz.func12, Tryz.ntmps12
    go_wp2_with fail
    refine HC.out.mono ?_
    rintro e w1 ⟨rfl, h1⟩
    replace h1 := Lib.hid h1
    go_wp2_with fail
    go_ret2
    exact ⟨rfl, h1.out⟩
set_option maxRecDepth 100000 in
theorem pnewE_4 (q : Option Addr) (n par : Int) (w : World) (er : Int) (her : er = 1 ∨ er = 3) (R : World → Prop) (HC : Calls Tryz.prog 57 #[.pointer q, .int .i64 n] w fun e w' => e = .returned (.tuple #[.pointer none, .int .i64 er]) ∧ R w') :
    Calls Tryz.prog 12 #[.pointer q, .int .i64 4, .int .i64 n, .int .i64 par] w fun e w' => e = .returned (.tuple #[.pointer none, .int .i64 er]) ∧ R w' := by
  replace HC := Lib.hid HC
  rcases her with rfl | rfl
  · go_enter Tryz.func12, Tryz.ntmps12
    go_wp2_with fail
    refine HC.out.mono ?_
    rintro e w1 ⟨rfl, h1⟩
    replace h1 := Lib.hid h1
    go_wp2_with fail
    go_ret2
    exact ⟨rfl, h1.out⟩
  · go_enter Tryz.func12, Tryz.ntmps12
    go_wp2_with fail
    refine HC.out.mono ?_
    rintro e w1 ⟨rfl, h1⟩
    replace h1 := Lib.hid h1
    go_wp2_with fail
    go_ret2
    exact ⟨rfl, h1.out⟩
set_option maxRecDepth 100000 in
theorem pnewE_5 (q : Option Addr) (n par : Int) (w : World) (er : Int) (her : er = 1 ∨ er = 3) (R : World → Prop) (HC : Calls Tryz.prog 58 #[.pointer q, .int .i64 n] w fun e w' => e = .returned (.tuple #[.pointer none, .int .i64 er]) ∧ R w') :
    Calls Tryz.prog 12 #[.pointer q, .int .i64 5, .int .i64 n, .int .i64 par] w fun e w' => e = .returned (.tuple #[.pointer none, .int .i64 er]) ∧ R w' := by
  replace HC := Lib.hid HC
  rcases her with rfl | rfl
  · go_enter Tryz.func12, Tryz.ntmps12
    go_wp2_with fail
    refine HC.out.mono ?_
    rintro e w1 ⟨rfl, h1⟩
    replace h1 := Lib.hid h1
    go_wp2_with fail
    go_ret2
    exact ⟨rfl, h1.out⟩
  · go_enter Tryz.func12, Tryz.ntmps12
    go_wp2_with fail
    refine HC.out.mono ?_
    rintro e w1 ⟨rfl, h1⟩
    replace h1 := Lib.hid h1
    go_wp2_with fail
    go_ret2
    exact ⟨rfl, h1.out⟩
set_option maxRecDepth 100000 in
theorem pnewK (q : Option Addr) (kind n par : Int) (h : kind < 1 ∨ 5 < kind) (w : World) : Calls Tryz.prog 12 #[.pointer q, .int .i64 kind, .int .i64 n, .int .i64 par] w fun e w' => e = .returned (.tuple #[.pointer none, .int .i64 7]) ∧ w' = w := by
  have e1 := ibeq_no (show ¬ kind = 1 by omega)
  have e2 := ibeq_no (show ¬ kind = 2 by omega)
  have e3 := ibeq_no (show ¬ kind = 3 by omega)
  have e4 := ibeq_no (show ¬ kind = 4 by omega)
  have e5 := ibeq_no (show ¬ kind = 5 by omega)
  clear h
  go_enter Tryz.func12, Tryz.ntmps12
  go_wp2_with fail
  go_ret2
  exact ⟨rfl, by trivial⟩
theorem pbad (q : Option Addr) (kind n par : Int) (hk : 1 ≤ kind ∧ kind ≤ 5) (h : ¬ argsOk kind n par) (w : World) : Calls Tryz.prog 12 #[.pointer q, .int .i64 kind, .int .i64 n, .int .i64 par] w fun e w' => e = .returned (.tuple #[.pointer none, .int .i64 1]) ∧ w' = w := by
  unfold argsOk at h
  rcases (show kind = 1 ∨ kind = 2 ∨ kind = 3 ∨ kind = 4 ∨ kind = 5 by omega) with rfl | rfl | rfl | rfl | rfl
  · exact pnewE_1 q n par w 1 (.inl rfl) _ (pn15_arg q n par (fun hh => h ⟨hh.1, fun _ => hh.2, fun e => by omega⟩) w)
  · exact pnewE_2 q n par w 1 (.inl rfl) _ (pn16_arg q n (fun hh => h ⟨hh, fun e => by omega, fun e => by omega⟩) w)
  · exact pnewE_3 q n par w 1 (.inl rfl) _ (pn17_arg q n par (fun hh => h ⟨hh.1, fun e => by omega, fun _ => hh.2⟩) w)
  · exact pnewE_4 q n par w 1 (.inl rfl) _ (pn18_arg q n (fun hh => h ⟨hh, fun e => by omega, fun e => by omega⟩) w)
  · exact pnewE_5 q n par w 1 (.inl rfl) _ (pn19_arg q n (fun hh => h ⟨hh, fun e => by omega, fun e => by omega⟩) w)
theorem take_full {σ : Ar} {m : Nat} (hl : σ.t ≤ σ.ws.length) (h : ¬ σ.t + m ≤ σ.ws.length) : σ.take (m : Int) = ((0, 3), σ) := by
  unfold Ar.take
  rw [if_neg (by omega), if_pos (by omega)]
theorem may_of {kind : Int} {n : Nat} {par : Int} (hk : 1 ≤ kind ∧ kind ≤ 5) (h : argsOk kind n par) : mayK kind n par := ⟨hk, ⟨by have := h.1; omega, by have := h.1; omega⟩, h.2.1, h.2.2⟩
theorem size_int {kind : Int} {n : Nat} {par : Int} (hM : mayK kind n par) : ((sizeK kind n par : Nat) : Int) = if kind = 1 then 1 else if kind = 2 then 2 else if kind = 3 then 1 + par else if kind = 4 then 1 + 2 * (n : Int) else (n : Int) + 2 := by
  obtain ⟨_, _, _, h3⟩ := hM
  unfold sizeK
  repeat (first | split | omega)
theorem pfull (kind : Int) (n : Nat) (par : Int) (hM : mayK kind n par) (ga ha : Nat) (σ : Ar) (w : World) (H : ArAt w ga ha σ) (hl : σ.t ≤ σ.ws.length) (hr : ¬ σ.t + sizeK kind n par ≤ σ.ws.length) : Calls Tryz.prog 12 #[.pointer (some ⟨ga, 0, none⟩), .int .i64 kind, .int .i64 (n : Int), .int .i64 par] w (PErr 3 ga ha σ w) := by
  have ht := take_full hl hr
  rw [size_int hM] at ht
  obtain ⟨⟨k1, k5⟩, ⟨n1, n2⟩, ha1, ha3⟩ := hM
  have n1' : (1 : Int) ≤ (n : Int) := by omega
  have n2' : (n : Int) ≤ 32 := by omega
  rcases (show kind = 1 ∨ kind = 2 ∨ kind = 3 ∨ kind = 4 ∨ kind = 5 by omega) with rfl | rfl | rfl | rfl | rfl
  · obtain ⟨m1, m2⟩ := ha1 rfl
    exact pnewE_1 _ _ par w 3 (.inr rfl) _ (pn15_full ga ha σ w H n n1' n2' par m1 m2 ht)
  · exact pnewE_2 _ _ par w 3 (.inr rfl) _ (pn16_full ga ha σ w H n n1' n2' ht)
  · obtain ⟨m1, m2⟩ := ha3 rfl
    exact pnewE_3 _ _ par w 3 (.inr rfl) _ (pn17_full ga ha σ w H n n1' n2' par m1 m2 ht)
  · exact pnewE_4 _ _ par w 3 (.inr rfl) _ (pn18_full ga ha σ w H n n1' n2' ht)
  · exact pnewE_5 _ _ par w 3 (.inr rfl) _ (pn19_full ga ha σ w H n n1' n2' ht)
end Go.Proofs.YthffhhgaeolpgaaGreat.Fl

