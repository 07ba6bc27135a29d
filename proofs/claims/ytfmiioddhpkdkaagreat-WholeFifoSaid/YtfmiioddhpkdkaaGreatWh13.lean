/- Merged texts: Fl5, Fl6, Gst, Lk1, Lk2, Lo1, TpO. -/
import Derived.Test.YtfmiioddhpkdkaaGreatWh12
set_option linter.unusedVariables false
/- Package flat: a lock of any kind, as Lean has it, and in memory. -/
namespace Go.Proofs.YtfmiioddhpkdkaaGreat.Fl
open Go.RowKit Go.Proofs.YtfmiioddhpkdkaaGreat.Ara Go.Proofs.YtfmiioddhpkdkaaGreat.Lok

inductive PK where
  | tas (P : Ta.Par)
  | tic (P : Tk.Par)
  | par (P : Pt.Par)
  | mcs (P : Mc.Par)
  | clh (P : Cl.Par)
def PK.num : PK → Int
  | .tas _ => 1
  | .tic _ => 2
  | .par _ => 3
  | .mcs _ => 4
  | .clh _ => 5
def PK.ty : PK → TypeId
  | .tas _ => 225
  | .tic _ => 226
  | .par _ => 229
  | .mcs _ => 232
  | .clh _ => 235
def PK.val (gl : Nat) : PK → Value
  | .tas _ => .agg #[.pointer (some ⟨gl, 0, none⟩)]
  | _ => .pointer (some ⟨gl, 0, none⟩)
def doK : PK → Ar → List Sp → Int → Int → Bool × Ar × List Sp
  | .tas P => Ta.doP P
  | .tic P => Tk.doP P
  | .par P => Pt.doP P
  | .mcs P => Mc.doP P
  | .clh P => Cl.doP P
def OkK : PK → Ar → List Sp → Nat → Nat → Prop
  | .tas P => Ta.OkP P
  | .tic P => Tk.OkP P
  | .par P => Pt.OkP P
  | .mcs P => Mc.OkP P
  | .clh P => Cl.OkP P
theorem do_ops (p : PK) (σ : Ar) (sp : List Sp) (kd i : Int) : (doK p σ sp kd i).2.1.ops ≤ σ.ops + 1 ∧ σ.ops ≤ (doK p σ sp kd i).2.1.ops := by
  cases p with
  | tas P => exact Ta.do_ops P σ sp kd i
  | tic P => exact Tk.do_ops P σ sp kd i
  | par P => exact Pt.do_ops P σ sp kd i
  | mcs P => exact Mc.do_ops P σ sp kd i
  | clh P => exact Cl.do_ops P σ sp kd i
theorem do_len (p : PK) (σ : Ar) (sp : List Sp) (kd i : Int) : (doK p σ sp kd i).2.2.length = sp.length := by
  cases p with
  | tas P => exact Ta.do_len P σ sp kd i
  | tic P => exact Tk.do_len P σ sp kd i
  | par P => exact Pt.do_len P σ sp kd i
  | mcs P => exact Mc.do_len P σ sp kd i
  | clh P => exact Cl.do_len P σ sp kd i
theorem do_else (p : PK) (σ : Ar) (sp : List Sp) (kd i : Int) (h : kd < 0 ∨ 3 < kd) : doK p σ sp kd i = (false, σ, sp) := by
  cases p with
  | tas P => show Ta.doP P σ sp kd i = _; unfold Ta.doP; rw [if_neg (by omega), if_neg (by omega), if_neg (by omega), if_neg (by omega)]
  | tic P => show Tk.doP P σ sp kd i = _; unfold Tk.doP; rw [if_neg (by omega), if_neg (by omega), if_neg (by omega), if_neg (by omega)]
  | par P => show Pt.doP P σ sp kd i = _; unfold Pt.doP; rw [if_neg (by omega), if_neg (by omega), if_neg (by omega), if_neg (by omega)]
  | mcs P => show Mc.doP P σ sp kd i = _; unfold Mc.doP; rw [if_neg (by omega), if_neg (by omega), if_neg (by omega), if_neg (by omega)]
  | clh P => show Cl.doP P σ sp kd i = _; unfold Cl.doP; rw [if_neg (by omega), if_neg (by omega), if_neg (by omega), if_neg (by omega)]
section
variable {p : PK} {σ : Ar} {sp : List Sp} {n m : Nat} (h : OkK p σ sp n m)
include h
theorem OkK.act (kd i : Int) : OkK p (doK p σ sp kd i).2.1 (doK p σ sp kd i).2.2 n (m + 1) := by
  cases p with
  | tas P => exact Ta.OkP.act h kd i
  | tic P => exact Tk.OkP.act h kd i
  | par P => exact Pt.OkP.act h kd i
  | mcs P => exact Mc.OkP.act h kd i
  | clh P => exact Cl.OkP.act h kd i
theorem OkK.one : cnt (fun s => s.pc == 10) sp n ≤ 1 := by
  cases p with
  | tas P => exact Ta.OkP.one h
  | tic P => exact Tk.OkP.one h
  | par P => exact Pt.OkP.one h
  | mcs P => exact Mc.OkP.one h
  | clh P => exact Cl.OkP.one h
theorem OkK.len : sp.length = n := by
  cases p with
  | tas P => exact Ta.OkP.len h
  | tic P => exact Tk.OkP.len h
  | par P => exact Pt.OkP.len h
  | mcs P => exact Mc.OkP.len h
  | clh P => exact Cl.OkP.len h
theorem OkK.ops : σ.ops ≤ m + 1 := by
  cases p with
  | tas P => exact Ta.OkP.ops h
  | tic P => exact Tk.OkP.ops h
  | par P => exact Pt.OkP.ops h
  | mcs P => exact Mc.OkP.ops h
  | clh P => exact Cl.OkP.ops h
end
def PK.At (p : PK) (W : World) (gl ga ha hs : Nat) (σ : Ar) (sp : List Sp) : Prop :=
  match p with
  | .tas P => Ta.LkAt W gl ga ha hs P σ sp
  | .tic P => Tk.LkAt W gl ga ha hs P σ sp
  | .par P => Pt.LkAt W gl ga ha hs P σ sp
  | .mcs P => Mc.LkAt W gl ga ha hs P σ sp
  | .clh P => Cl.LkAt W gl ga ha hs P σ sp
theorem PK.At.same {p : PK} {W W' : World} {gl ga ha hs : Nat} {σ : Ar} {sp : List Sp} (k : p.At W gl ga ha hs σ sp) (hb : Below W.heap.size W W') : p.At W' gl ga ha hs σ sp := by
  cases p with
  | tas P => exact Ta.LkAt.same k hb
  | tic P => exact Tk.LkAt.same k hb
  | par P => exact Pt.LkAt.same k hb
  | mcs P => exact Mc.LkAt.same k hb
  | clh P => exact Cl.LkAt.same k hb
theorem PK.At.mod {p : PK} {S : List Nat} {W W' : World} {gl ga ha hs : Nat} {σ : Ar} {sp : List Sp} (k : p.At W gl ga ha hs σ sp) (hm : Mod S W W') (h1 : gl ∉ S) (h2 : ga ∉ S) (h3 : ha ∉ S) (h4 : hs ∉ S) : p.At W' gl ga ha hs σ sp := by
  cases p with
  | tas P => exact Ta.LkAt.mod k hm h1 h2 h3 h4
  | tic P => exact Tk.LkAt.mod k hm h1 h2 h3 h4
  | par P => exact Pt.LkAt.mod k hm h1 h2 h3 h4
  | mcs P => exact Mc.LkAt.mod k hm h1 h2 h3 h4
  | clh P => exact Cl.LkAt.mod k hm h1 h2 h3 h4
theorem PK.At.facts {p : PK} {W : World} {gl ga ha hs : Nat} {σ : Ar} {sp : List Sp} (k : p.At W gl ga ha hs σ sp) : ArAt W ga ha σ ∧ SpAt W hs sp ∧ sp.length ≤ 32 ∧ gl < W.heap.size ∧ (gl ≠ ga ∧ gl ≠ ha ∧ gl ≠ hs ∧ hs ≠ ga ∧ hs ≠ ha) := by
  cases p with
  | tas P => obtain ⟨k1, k2, k3, ⟨c, k4⟩, k5⟩ := k; exact ⟨k1, k2, k3, lt_of_blk k4, k5⟩
  | tic P => obtain ⟨k1, k2, k3, ⟨c, k4⟩, k5⟩ := k; exact ⟨k1, k2, k3, lt_of_blk k4, k5⟩
  | par P => obtain ⟨k1, k2, k3, ⟨c, k4⟩, k5⟩ := k; exact ⟨k1, k2, k3, lt_of_blk k4, k5⟩
  | mcs P => obtain ⟨k1, k2, k3, ⟨c, k4⟩, k5⟩ := k; exact ⟨k1, k2, k3, lt_of_blk k4, k5⟩
  | clh P => obtain ⟨k1, k2, k3, ⟨c, k4⟩, k5⟩ := k; exact ⟨k1, k2, k3, lt_of_blk k4, k5⟩
structure FLAt (W : World) (gf gl ga ha hs : Nat) (p : PK) (σ : Ar) (sp : List Sp) : Prop where
  fb : FlB W gf p.num p.ty (p.val gl)
  at_ : p.At W gl ga ha hs σ sp
  n1 : gf ≠ ga
  n2 : gf ≠ ha
  n3 : gf ≠ hs
theorem FLAt.same {W W' : World} {gf gl ga ha hs : Nat} {p : PK} {σ : Ar} {sp : List Sp} (k : FLAt W gf gl ga ha hs p σ sp) (hb : Below W.heap.size W W') : FLAt W' gf gl ga ha hs p σ sp := ⟨FlB.same k.fb hb, k.at_.same hb, k.n1, k.n2, k.n3⟩
theorem FLAt.mod {S : List Nat} {W W' : World} {gf gl ga ha hs : Nat} {p : PK} {σ : Ar} {sp : List Sp} (k : FLAt W gf gl ga ha hs p σ sp) (hm : Mod S W W') (h0 : gf ∉ S) (h1 : gl ∉ S) (h2 : ga ∉ S) (h3 : ha ∉ S) (h4 : hs ∉ S) : FLAt W' gf gl ga ha hs p σ sp := ⟨FlB.mod k.fb hm h0, k.at_.mod hm h1 h2 h3 h4, k.n1, k.n2, k.n3⟩
theorem FLAt.acts {W W' : World} {gf gl ga ha hs : Nat} {p : PK} {σ σ' : Ar} {sp sp' : List Sp} (k : FLAt W gf gl ga ha hs p σ sp) (h : p.At W' gl ga ha hs σ' sp') (hm : Mod [ga, ha, hs] W W') : FLAt W' gf gl ga ha hs p σ' sp' := by
  have h1 := k.n1
  have h2 := k.n2
  have h3 := k.n3
  exact ⟨FlB.mod k.fb hm (by simp; omega), h, h1, h2, h3⟩
theorem FLAt.blocks {W : World} {gf gl ga ha hs : Nat} {p : PK} {σ : Ar} {sp : List Sp} (k : FLAt W gf gl ga ha hs p σ sp) : gf < W.heap.size ∧ gl < W.heap.size ∧ ga < W.heap.size ∧ hs < W.heap.size :=
  ⟨lt_of_blk k.fb, k.at_.facts.2.2.2.1, k.at_.facts.1.lt, k.at_.facts.2.1.lt⟩
section
variable {gf gl ga ha hs : Nat} {p : PK} {σ : Ar} {sp : List Sp} {w : World} (K : FLAt w gf gl ga ha hs p σ sp)
include K
theorem Ask_flat (n m : Nat) (ho : OkK p σ sp n m) (hm : m ≤ 100000) (i : Int) : Calls Tryz.prog 171 #[.pointer (some ⟨gf, 0, none⟩), .int .i64 i] w fun e w' => e = .returned (.bool (doK p σ sp 1 i).1) ∧ FLAt w' gf gl ga ha hs p (doK p σ sp 1 i).2.1 (doK p σ sp 1 i).2.2 ∧ Mod [ga, ha, hs] w w' := by
  suffices h : Calls Tryz.prog 171 #[.pointer (some ⟨gf, 0, none⟩), .int .i64 i] w fun e w' => e = .returned (.bool (doK p σ sp 1 i).1) ∧ (p.At w' gl ga ha hs (doK p σ sp 1 i).2.1 (doK p σ sp 1 i).2.2 ∧ Mod [ga, ha, hs] w w') from
    h.mono fun e w' ⟨h1, h2, h3⟩ => ⟨h1, K.acts h2 h3, h3⟩
  cases p with
  | tas P => exact Ask_gen gf 1 (by decide) _ _ _ _ w c1_Ask (m1_Ask gl) K.fb i _ _ ((Ta.ask_lk gl ga ha hs P σ sp w K.at_ i).mono fun e w' ⟨a, b, c⟩ => ⟨a, b, c.sub (by simp)⟩)
  | tic P => exact Ask_gen gf 2 (by decide) _ _ _ _ w c2_Ask (m2_Ask gl) K.fb i _ _ ((Tk.Ask_lk gl ga ha hs P σ sp w K.at_ i).mono fun e w' ⟨a, b, c⟩ => ⟨a, b, c.sub (by simp)⟩)
  | par P => exact Ask_gen gf 3 (by decide) _ _ _ _ w c3_Ask (m3_Ask gl) K.fb i _ _ ((Pt.Ask_lk gl ga ha hs P σ sp w K.at_ i).mono fun e w' ⟨a, b, c⟩ => ⟨a, b, c.sub (by simp)⟩)
  | mcs P => exact Ask_gen gf 4 (by decide) _ _ _ _ w c4_Ask (m4_Ask gl) K.fb i _ _ ((Mc.Ask_lk gl ga ha hs P σ sp w K.at_ i).mono fun e w' ⟨a, b, c⟩ => ⟨a, b, c.sub (by simp)⟩)
  | clh P => exact Ask_gen gf 5 (by decide) _ _ _ _ w c5_Ask (m5_Ask gl) K.fb i _ _ ((Cl.Ask_lk gl ga ha hs P σ sp w K.at_ i).mono fun e w' ⟨a, b, c⟩ => ⟨a, b, c.sub (by simp)⟩)
theorem Leave_flat (n m : Nat) (ho : OkK p σ sp n m) (hm : m ≤ 100000) (i : Int) : Calls Tryz.prog 178 #[.pointer (some ⟨gf, 0, none⟩), .int .i64 i] w fun e w' => e = .returned (.bool (doK p σ sp 2 i).1) ∧ FLAt w' gf gl ga ha hs p (doK p σ sp 2 i).2.1 (doK p σ sp 2 i).2.2 ∧ Mod [ga, ha, hs] w w' := by
  suffices h : Calls Tryz.prog 178 #[.pointer (some ⟨gf, 0, none⟩), .int .i64 i] w fun e w' => e = .returned (.bool (doK p σ sp 2 i).1) ∧ (p.At w' gl ga ha hs (doK p σ sp 2 i).2.1 (doK p σ sp 2 i).2.2 ∧ Mod [ga, ha, hs] w w') from
    h.mono fun e w' ⟨h1, h2, h3⟩ => ⟨h1, K.acts h2 h3, h3⟩
  cases p with
  | tas P => exact Leave_gen gf 1 (by decide) _ _ _ _ w c1_Leave (m1_Leave gl) K.fb i _ _ ((Ta.leave_lk gl ga ha hs P σ sp w K.at_ i).mono fun e w' ⟨a, b, c⟩ => ⟨a, b, c.sub (by simp)⟩)
  | tic P => exact Leave_gen gf 2 (by decide) _ _ _ _ w c2_Leave (m2_Leave gl) K.fb i _ _ ((Tk.Leave_lk gl ga ha hs P σ sp w K.at_ i).mono fun e w' ⟨a, b, c⟩ => ⟨a, b, c.sub (by simp)⟩)
  | par P => exact Leave_gen gf 3 (by decide) _ _ _ _ w c3_Leave (m3_Leave gl) K.fb i _ _ ((Pt.Leave_lk gl ga ha hs P σ sp w K.at_ i).mono fun e w' ⟨a, b, c⟩ => ⟨a, b, c.sub (by simp)⟩)
  | mcs P => exact Leave_gen gf 4 (by decide) _ _ _ _ w c4_Leave (m4_Leave gl) K.fb i _ _ ((Mc.Leave_lk gl ga ha hs P σ sp w K.at_ i).mono fun e w' ⟨a, b, c⟩ => ⟨a, b, c.sub (by simp)⟩)
  | clh P => exact Leave_gen gf 5 (by decide) _ _ _ _ w c5_Leave (m5_Leave gl) K.fb i _ _ ((Cl.Leave_lk gl ga ha hs P σ sp w K.at_ i).mono fun e w' ⟨a, b, c⟩ => ⟨a, b, c.sub (by simp)⟩)
theorem Step_flat (n m : Nat) (ho : OkK p σ sp n m) (hm : m ≤ 100000) (i : Int) : Calls Tryz.prog 175 #[.pointer (some ⟨gf, 0, none⟩), .int .i64 i] w fun e w' => e = .returned (.bool (doK p σ sp 0 i).1) ∧ FLAt w' gf gl ga ha hs p (doK p σ sp 0 i).2.1 (doK p σ sp 0 i).2.2 ∧ Mod [ga, ha, hs] w w' := by
  suffices h : Calls Tryz.prog 175 #[.pointer (some ⟨gf, 0, none⟩), .int .i64 i] w fun e w' => e = .returned (.bool (doK p σ sp 0 i).1) ∧ (p.At w' gl ga ha hs (doK p σ sp 0 i).2.1 (doK p σ sp 0 i).2.2 ∧ Mod [ga, ha, hs] w w') from
    h.mono fun e w' ⟨h1, h2, h3⟩ => ⟨h1, K.acts h2 h3, h3⟩
  cases p with
  | tas P => exact Step_gen gf 1 (by decide) _ _ _ _ w c1_Step (m1_Step gl) K.fb i _ _ (Ta.step_lk gl ga ha hs P σ sp w K.at_ (Ta.OkP.inv ho) (by have := Ta.OkP.ops ho; omega) i)
  | tic P => exact Step_gen gf 2 (by decide) _ _ _ _ w c2_Step (m2_Step gl) K.fb i _ _ (Tk.step_lk gl ga ha hs P σ sp w K.at_ (Tk.OkP.num ho hm) i)
  | par P => exact Step_gen gf 3 (by decide) _ _ _ _ w c3_Step (m3_Step gl) K.fb i _ _ (Pt.step_lk gl ga ha hs P σ sp w K.at_ (Pt.OkP.num ho hm) i)
  | mcs P => exact Step_gen gf 4 (by decide) _ _ _ _ w c4_Step (m4_Step gl) K.fb i _ _ (Mc.step_lk gl ga ha hs P σ sp w K.at_ (Mc.OkP.num ho hm) i)
  | clh P => exact Step_gen gf 5 (by decide) _ _ _ _ w c5_Step (m5_Step gl) K.fb i _ _ (Cl.step_lk gl ga ha hs P σ sp w K.at_ (Cl.OkP.num ho hm) i)
theorem Alone_flat (n m : Nat) (ho : OkK p σ sp n m) (hm : m ≤ 100000) (i : Int) : Calls Tryz.prog 177 #[.pointer (some ⟨gf, 0, none⟩), .int .i64 i] w fun e w' => e = .returned (.bool (doK p σ sp 3 i).1) ∧ FLAt w' gf gl ga ha hs p (doK p σ sp 3 i).2.1 (doK p σ sp 3 i).2.2 ∧ Mod [ga, ha, hs] w w' := by
  suffices h : Calls Tryz.prog 177 #[.pointer (some ⟨gf, 0, none⟩), .int .i64 i] w fun e w' => e = .returned (.bool (doK p σ sp 3 i).1) ∧ (p.At w' gl ga ha hs (doK p σ sp 3 i).2.1 (doK p σ sp 3 i).2.2 ∧ Mod [ga, ha, hs] w w') from
    h.mono fun e w' ⟨h1, h2, h3⟩ => ⟨h1, K.acts h2 h3, h3⟩
  cases p with
  | tas P => exact Alone_gen gf 1 (by decide) _ _ _ _ w c1_Alone (m1_Alone gl) K.fb i _ _ ((lone_alone gl ga ha hs P σ sp w K.at_ i _ rfl).mono fun e w' ⟨a, b⟩ => ⟨a, Ta.LkAt.same K.at_ b, Mod.of_below b⟩)
  | tic P => exact Alone_gen gf 2 (by decide) _ _ _ _ w c2_Alone (m2_Alone gl) K.fb i _ _ ((Tk.alone_lk gl ga ha hs P σ sp w K.at_ (Tk.OkP.num ho hm) i).mono fun e w' ⟨a, b, c⟩ => ⟨a, b, c.sub (by simp)⟩)
  | par P => exact Alone_gen gf 3 (by decide) _ _ _ _ w c3_Alone (m3_Alone gl) K.fb i _ _ ((Pt.alone_lk gl ga ha hs P σ sp w K.at_ (Pt.OkP.num ho hm).2.1 (Pt.OkP.num ho hm).2.2.1 i).mono fun e w' ⟨a, b, c⟩ => ⟨a, b, c.sub (by simp)⟩)
  | mcs P => exact Alone_gen gf 4 (by decide) _ _ _ _ w c4_Alone (m4_Alone gl) K.fb i _ _ ((Mc.alone_lk gl ga ha hs P σ sp w K.at_ (Mc.OkP.num ho hm) i).mono fun e w' ⟨a, b, c⟩ => ⟨a, b, c.sub (by simp)⟩)
  | clh P => exact Alone_gen gf 5 (by decide) _ _ _ _ w c5_Alone (m5_Alone gl) K.fb i _ _ ((Cl.alone_lk gl ga ha hs P σ sp w K.at_ (Cl.OkP.num ho hm) i).mono fun e w' ⟨a, b, c⟩ => ⟨a, b, c.sub (by simp)⟩)
theorem Spot_flat (i : Int) : Calls Tryz.prog 290 #[.pointer (some ⟨gf, 0, none⟩), .int .i64 i] w fun e w' => e = .returned (.agg #[.int .i64 (spOf sp i).pc, .int .i64 (spOf sp i).a, .int .i64 (spOf sp i).b, .int .i64 (spOf sp i).c]) ∧ Below w.heap.size w w' := by
  cases p with
  | tas P => exact Spot_gen gf 1 (by decide) _ _ _ _ w c1_Spot (m1_Spot gl) K.fb i _ (fun W hW => Ta.Spot_lk gl ga ha hs P σ sp W (Ta.LkAt.same K.at_ hW) i)
  | tic P => exact Spot_gen gf 2 (by decide) _ _ _ _ w c2_Spot (m2_Spot gl) K.fb i _ (fun W hW => Tk.LSpot_lk gl ga ha hs P σ sp W (Tk.LkAt.same K.at_ hW) i)
  | par P => exact Spot_gen gf 3 (by decide) _ _ _ _ w c3_Spot (m3_Spot gl) K.fb i _ (fun W hW => Pt.Spot_lk gl ga ha hs P σ sp W (Pt.LkAt.same K.at_ hW) i)
  | mcs P => exact Spot_gen gf 4 (by decide) _ _ _ _ w c4_Spot (m4_Spot gl) K.fb i _ (fun W hW => Mc.Spot_lk gl ga ha hs P σ sp W (Mc.LkAt.same K.at_ hW) i)
  | clh P => exact Spot_gen gf 5 (by decide) _ _ _ _ w c5_Spot (m5_Spot gl) K.fb i _ (fun W hW => Cl.Spot_lk gl ga ha hs P σ sp W (Cl.LkAt.same K.at_ hW) i)
end
end Go.Proofs.YtfmiioddhpkdkaaGreat.Fl

/- Package flat: New, of all kinds. -/
namespace Go.Proofs.YtfmiioddhpkdkaaGreat.Fl
open Go.RowKit Go.Proofs.YtfmiioddhpkdkaaGreat.Ara Go.Proofs.YtfmiioddhpkdkaaGreat.Lok

set_option maxRecDepth 100000 in
theorem new_k1 (ga ha : Nat) (σ σ1 : Ar) (w : World) (H : ArAt w ga ha σ) (hh : ha < w.heap.size) (n : Nat) (n1 : 1 ≤ n) (n2 : n ≤ 32) (par : Int) (m1 : 1 ≤ par) (m2 : par ≤ 1024) (next : Int) (ht : σ.take 1 = ((next, 0), σ1)) :
    Calls Tryz.prog 75 #[.pointer (some ⟨ga, 0, none⟩), .int .i64 1, .int .i64 (n : Int), .int .i64 par] w fun e w' => ∃ gf gl hs, e = .returned (.tuple #[.pointer (some ⟨gf, 0, none⟩), .int .i64 0]) ∧ FlB w' gf 1 225 (.agg #[.pointer (some ⟨gl, 0, none⟩)]) ∧ Ta.LkAt w' gl ga ha hs ⟨next, par⟩ σ1 (Ta.zeroS n) ∧ (w.heap.size ≤ gf ∧ w.heap.size ≤ gl ∧ w.heap.size ≤ hs ∧ gf ≠ hs) ∧ Mod [ga, ha] w w' := by
  have HN := Lib.hid (Ta.new_lk ga ha σ σ1 w H hh n n1 n2 par m1 m2 next ht)
  clear H ht
  go_enter Tryz.func75, Tryz.ntmps75
  go_wp2_with fail
  refine HN.out.mono ?_
  rintro e w2 ⟨gl, hs, rfl, hk, hgl, hhs, hm⟩
  have hbn := below_new w2 (.cells #[.int .i64 1, .iface 225 (.agg #[.pointer (some ⟨gl, 0, none⟩)])] 239)
  have HB := Lib.hid (blk_new w2 (.cells #[.int .i64 1, .iface 225 (.agg #[.pointer (some ⟨gl, 0, none⟩)])] 239))
  have hz := hm.size
  have hlt := hk.2.1.lt
  have HK := Lib.hid (hk.same hbn)
  have hmm := hm.alloc (.cells #[.int .i64 1, .iface 225 (.agg #[.pointer (some ⟨gl, 0, none⟩)])] 239)
  clear hk hm hbn
  go_wp2_with fail
  go_ret2
  exact ⟨w2.heap.size, gl, hs, rfl, HB.out, HK.out, by omega, hmm⟩
set_option maxRecDepth 100000 in
theorem new_k2 (ga ha : Nat) (σ σ1 : Ar) (w : World) (H : ArAt w ga ha σ) (hh : ha < w.heap.size) (n : Nat) (n1 : 1 ≤ n) (n2 : n ≤ 32) (par : Int) (next : Int) (ht : σ.take 2 = ((next, 0), σ1)) :
    Calls Tryz.prog 75 #[.pointer (some ⟨ga, 0, none⟩), .int .i64 2, .int .i64 (n : Int), .int .i64 par] w fun e w' => ∃ gf gl hs, e = .returned (.tuple #[.pointer (some ⟨gf, 0, none⟩), .int .i64 0]) ∧ FlB w' gf 2 226 (.pointer (some ⟨gl, 0, none⟩)) ∧ Tk.LkAt w' gl ga ha hs ⟨next⟩ σ1 (Ta.zeroS n) ∧ (w.heap.size ≤ gf ∧ w.heap.size ≤ gl ∧ w.heap.size ≤ hs ∧ gf ≠ hs) ∧ Mod [ga, ha] w w' := by
  have HN := Lib.hid (Tk.new_lk ga ha σ σ1 w H hh n n1 n2 next ht)
  clear H ht
  go_enter Tryz.func75, Tryz.ntmps75
  go_wp2_with fail
  refine HN.out.mono ?_
  rintro e w2 ⟨gl, hs, rfl, hk, hgl, hhs, hm⟩
  have hbn := below_new w2 (.cells #[.int .i64 2, .iface 226 (.pointer (some ⟨gl, 0, none⟩))] 239)
  have HB := Lib.hid (blk_new w2 (.cells #[.int .i64 2, .iface 226 (.pointer (some ⟨gl, 0, none⟩))] 239))
  have hz := hm.size
  have hlt := hk.2.1.lt
  have HK := Lib.hid (hk.same hbn)
  have hmm := hm.alloc (.cells #[.int .i64 2, .iface 226 (.pointer (some ⟨gl, 0, none⟩))] 239)
  clear hk hm hbn
  go_wp2_with fail
  go_ret2
  exact ⟨w2.heap.size, gl, hs, rfl, HB.out, HK.out, by omega, hmm⟩
set_option maxRecDepth 100000 in
theorem new_k3 (ga ha : Nat) (σ σ1 : Ar) (w : World) (H : ArAt w ga ha σ) (hh : ha < w.heap.size) (n : Nat) (n1 : 1 ≤ n) (n2 : n ≤ 32) (par : Int) (p1 : 1 ≤ par) (p2 : par ≤ 32) (next : Int) (x1 : 1 ≤ next) (x2 : next ≤ 4096) (ht : σ.take (1 + par) = ((next, 0), σ1)) (ho : σ1.ops ≤ 1000000) :
    Calls Tryz.prog 75 #[.pointer (some ⟨ga, 0, none⟩), .int .i64 3, .int .i64 (n : Int), .int .i64 par] w fun e w' => ∃ gf gl hs, e = .returned (.tuple #[.pointer (some ⟨gf, 0, none⟩), .int .i64 0]) ∧ FlB w' gf 3 229 (.pointer (some ⟨gl, 0, none⟩)) ∧ Pt.LkAt w' gl ga ha hs ⟨next, par⟩ (σ1.op 2 (Pt.place ⟨next, par⟩ 0) true 1) (Pt.zeroS n) ∧ (w.heap.size ≤ gf ∧ w.heap.size ≤ gl ∧ w.heap.size ≤ hs ∧ gf ≠ hs) ∧ Mod [ga, ha] w w' := by
  have HN := Lib.hid (Pt.new_lk ga ha σ σ1 w H hh n n1 n2 par next p1 p2 x1 x2 ht ho)
  clear H ht
  go_enter Tryz.func75, Tryz.ntmps75
  go_wp2_with fail
  refine HN.out.mono ?_
  rintro e w2 ⟨gl, hs, rfl, hk, hgl, hhs, hm⟩
  have hbn := below_new w2 (.cells #[.int .i64 3, .iface 229 (.pointer (some ⟨gl, 0, none⟩))] 239)
  have HB := Lib.hid (blk_new w2 (.cells #[.int .i64 3, .iface 229 (.pointer (some ⟨gl, 0, none⟩))] 239))
  have hz := hm.size
  have hlt := hk.2.1.lt
  have HK := Lib.hid (hk.same hbn)
  have hmm := hm.alloc (.cells #[.int .i64 3, .iface 229 (.pointer (some ⟨gl, 0, none⟩))] 239)
  clear hk hm hbn
  go_wp2_with fail
  go_ret2
  exact ⟨w2.heap.size, gl, hs, rfl, HB.out, HK.out, by omega, hmm⟩
set_option maxRecDepth 100000 in
theorem new_k4 (ga ha : Nat) (σ σ1 : Ar) (w : World) (H : ArAt w ga ha σ) (hh : ha < w.heap.size) (n : Nat) (n1 : 1 ≤ n) (n2 : n ≤ 32) (par : Int) (next : Int) (x1 : 1 ≤ next) (x2 : next ≤ 4096) (ht : σ.take (1 + 2 * (n : Int)) = ((next, 0), σ1)) (ho : σ1.ops ≤ 1000000) :
    Calls Tryz.prog 75 #[.pointer (some ⟨ga, 0, none⟩), .int .i64 4, .int .i64 (n : Int), .int .i64 par] w fun e w' => ∃ gf gl hs, e = .returned (.tuple #[.pointer (some ⟨gf, 0, none⟩), .int .i64 0]) ∧ FlB w' gf 4 232 (.pointer (some ⟨gl, 0, none⟩)) ∧ Mc.LkAt w' gl ga ha hs ⟨next⟩ σ1 (Mc.zeroS n) ∧ (w.heap.size ≤ gf ∧ w.heap.size ≤ gl ∧ w.heap.size ≤ hs ∧ gf ≠ hs) ∧ Mod [ga, ha] w w' := by
  have HN := Lib.hid (Mc.new_lk ga ha σ σ1 w H hh n n1 n2 next x1 x2 ht ho)
  clear H ht
  go_enter Tryz.func75, Tryz.ntmps75
  go_wp2_with fail
  refine HN.out.mono ?_
  rintro e w2 ⟨gl, hs, rfl, hk, hgl, hhs, hm⟩
  have hbn := below_new w2 (.cells #[.int .i64 4, .iface 232 (.pointer (some ⟨gl, 0, none⟩))] 239)
  have HB := Lib.hid (blk_new w2 (.cells #[.int .i64 4, .iface 232 (.pointer (some ⟨gl, 0, none⟩))] 239))
  have hz := hm.size
  have hlt := hk.2.1.lt
  have HK := Lib.hid (hk.same hbn)
  have hmm := hm.alloc (.cells #[.int .i64 4, .iface 232 (.pointer (some ⟨gl, 0, none⟩))] 239)
  clear hk hm hbn
  go_wp2_with fail
  go_ret2
  exact ⟨w2.heap.size, gl, hs, rfl, HB.out, HK.out, by omega, hmm⟩
set_option maxRecDepth 100000 in
theorem new_k5 (ga ha : Nat) (σ σ1 : Ar) (w : World) (H : ArAt w ga ha σ) (hh : ha < w.heap.size) (n : Nat) (n1 : 1 ≤ n) (n2 : n ≤ 32) (par : Int) (next : Int) (x1 : 1 ≤ next) (x2 : next ≤ 4096) (ht : σ.take ((n : Int) + 2) = ((next, 0), σ1)) (ho : σ1.ops ≤ 1000000) :
    Calls Tryz.prog 75 #[.pointer (some ⟨ga, 0, none⟩), .int .i64 5, .int .i64 (n : Int), .int .i64 par] w fun e w' => ∃ gf gl hs, e = .returned (.tuple #[.pointer (some ⟨gf, 0, none⟩), .int .i64 0]) ∧ FlB w' gf 5 235 (.pointer (some ⟨gl, 0, none⟩)) ∧ Cl.LkAt w' gl ga ha hs ⟨next⟩ (σ1.op 2 next true ((n : Int) + 1)) (Cl.first0 n) ∧ (w.heap.size ≤ gf ∧ w.heap.size ≤ gl ∧ w.heap.size ≤ hs ∧ gf ≠ hs) ∧ Mod [ga, ha] w w' := by
  have HN := Lib.hid (Cl.new_lk ga ha σ σ1 w H hh n n1 n2 next x1 x2 ht ho)
  clear H ht
  go_enter Tryz.func75, Tryz.ntmps75
  go_wp2_with fail
  refine HN.out.mono ?_
  rintro e w2 ⟨gl, hs, rfl, hk, hgl, hhs, hm⟩
  have hbn := below_new w2 (.cells #[.int .i64 5, .iface 235 (.pointer (some ⟨gl, 0, none⟩))] 239)
  have HB := Lib.hid (blk_new w2 (.cells #[.int .i64 5, .iface 235 (.pointer (some ⟨gl, 0, none⟩))] 239))
  have hz := hm.size
  have hlt := hk.2.1.lt
  have HK := Lib.hid (hk.same hbn)
  have hmm := hm.alloc (.cells #[.int .i64 5, .iface 235 (.pointer (some ⟨gl, 0, none⟩))] 239)
  clear hk hm hbn
  go_wp2_with fail
  go_ret2
  exact ⟨w2.heap.size, gl, hs, rfl, HB.out, HK.out, by omega, hmm⟩
def sizeK (kind : Int) (n : Nat) (par : Int) : Nat := if kind = 1 then 1 else if kind = 2 then 2 else if kind = 3 then 1 + par.toNat else if kind = 4 then 1 + 2 * n else n + 2
def mayK (kind : Int) (n : Nat) (par : Int) : Prop := (1 ≤ kind ∧ kind ≤ 5) ∧ (1 ≤ n ∧ n ≤ 32) ∧ (kind = 1 → 1 ≤ par ∧ par ≤ 1024) ∧ (kind = 3 → 1 ≤ par ∧ par ≤ 32)
def pkK (kind par : Int) (a : Nat) : PK := if kind = 1 then .tas ⟨a, par⟩ else if kind = 2 then .tic ⟨a⟩ else if kind = 3 then .par ⟨a, par⟩ else if kind = 4 then .mcs ⟨a⟩ else .clh ⟨a⟩
def firstK (kind : Int) (n : Nat) (par : Int) (a : Nat) (σ1 : Ar) : Ar × List Sp :=
  if kind = 3 then (σ1.op 2 (Pt.place ⟨a, par⟩ 0) true 1, Pt.zeroS n) else if kind = 5 then (σ1.op 2 (a : Int) true ((n : Int) + 1), Cl.first0 n) else (σ1, Ta.zeroS n)
theorem take_ok {σ : Ar} {m : Nat} (h : σ.t + m ≤ σ.ws.length) : σ.take (m : Int) = (((σ.t : Int) + 1, 0), { σ with t := σ.t + m }) := by
  unfold Ar.take
  rw [if_neg (by omega), if_neg (by omega), Int.toNat_natCast]
theorem zr_take {σ : Ar} {m : Nat} (h : σ.t + m ≤ σ.ws.length) (hz : ∀ k, σ.t ≤ k → σ.ws.getD k 0 = 0) : Zr { σ with t := σ.t + m } (σ.t + 1) m := by
  refine ⟨h, by omega, by show σ.t + 1 + m ≤ σ.t + m + 1; omega, fun q h1 h2 => ?_⟩
  unfold Ar.get
  split
  · exact hz _ (by omega)
  · rfl
def NewAft (kind : Int) (n : Nat) (par : Int) (ga ha : Nat) (σ : Ar) (w : World) (e : Ending) (w' : World) : Prop :=
  ∃ gf gl hs, e = .returned (.tuple #[.pointer (some ⟨gf, 0, none⟩), .int .i64 0]) ∧ FLAt w' gf gl ga ha hs (pkK kind par (σ.t + 1)) (firstK kind n par (σ.t + 1) { σ with t := σ.t + sizeK kind n par }).1 (firstK kind n par (σ.t + 1) { σ with t := σ.t + sizeK kind n par }).2 ∧ (w.heap.size ≤ gf ∧ w.heap.size ≤ gl ∧ w.heap.size ≤ hs) ∧ Mod [ga, ha] w w'
theorem new_flat (kind : Int) (n : Nat) (par : Int) (hM : mayK kind n par) (ga ha : Nat) (σ : Ar) (w : World) (H : ArAt w ga ha σ) (hh : ha < w.heap.size) (hr : σ.t + sizeK kind n par ≤ σ.ws.length) (hw : σ.ws.length ≤ 4096) (ho : σ.ops ≤ 1000000) :
    Calls Tryz.prog 75 #[.pointer (some ⟨ga, 0, none⟩), .int .i64 kind, .int .i64 (n : Int), .int .i64 par] w (NewAft kind n par ga ha σ w) := by
  obtain ⟨⟨k1, k5⟩, ⟨n1, n2⟩, ha1, ha3⟩ := hM
  have hga := H.lt
  have htk := take_ok hr
  rcases (show kind = 1 ∨ kind = 2 ∨ kind = 3 ∨ kind = 4 ∨ kind = 5 by omega) with rfl | rfl | rfl | rfl | rfl
  · obtain ⟨m1, m2⟩ := ha1 rfl
    refine (new_k1 ga ha σ _ w H hh n n1 n2 par m1 m2 _ htk).mono ?_
    rintro e w' ⟨gf, gl, hs, rfl, hf, hk, ⟨b1, b2, b3, b4⟩, hm⟩
    exact ⟨gf, gl, hs, rfl, ⟨hf, hk, by omega, by omega, b4⟩, ⟨b1, b2, b3⟩, hm⟩
  · refine (new_k2 ga ha σ _ w H hh n n1 n2 par _ htk).mono ?_
    rintro e w' ⟨gf, gl, hs, rfl, hf, hk, ⟨b1, b2, b3, b4⟩, hm⟩
    exact ⟨gf, gl, hs, rfl, ⟨hf, hk, by omega, by omega, b4⟩, ⟨b1, b2, b3⟩, hm⟩
  · obtain ⟨p1, p2⟩ := ha3 rfl
    have hsz : sizeK 3 n par = 1 + par.toNat := rfl
    rw [hsz] at hr htk
    rw [show ((1 + par.toNat : Nat) : Int) = 1 + par by omega] at htk
    refine (new_k3 ga ha σ _ w H hh n n1 n2 par p1 p2 _ (by omega) (by omega) htk ho).mono ?_
    rintro e w' ⟨gf, gl, hs, rfl, hf, hk, ⟨b1, b2, b3, b4⟩, hm⟩
    exact ⟨gf, gl, hs, rfl, ⟨hf, hk, by omega, by omega, b4⟩, ⟨b1, b2, b3⟩, hm⟩
  · have hsz : sizeK 4 n par = 1 + 2 * n := rfl
    rw [hsz] at hr htk
    rw [show ((1 + 2 * n : Nat) : Int) = 1 + 2 * (n : Int) by omega] at htk
    refine (new_k4 ga ha σ _ w H hh n n1 n2 par _ (by omega) (by omega) htk ho).mono ?_
    rintro e w' ⟨gf, gl, hs, rfl, hf, hk, ⟨b1, b2, b3, b4⟩, hm⟩
    exact ⟨gf, gl, hs, rfl, ⟨hf, hk, by omega, by omega, b4⟩, ⟨b1, b2, b3⟩, hm⟩
  · have hsz : sizeK 5 n par = n + 2 := rfl
    rw [hsz] at hr htk
    rw [show ((n + 2 : Nat) : Int) = (n : Int) + 2 by omega] at htk
    refine (new_k5 ga ha σ _ w H hh n n1 n2 par _ (by omega) (by omega) htk ho).mono ?_
    rintro e w' ⟨gf, gl, hs, rfl, hf, hk, ⟨b1, b2, b3, b4⟩, hm⟩
    exact ⟨gf, gl, hs, rfl, ⟨hf, hk, by omega, by omega, b4⟩, ⟨b1, b2, b3⟩, hm⟩
theorem ok_flat (kind : Int) (n : Nat) (par : Int) (hM : mayK kind n par) (σ : Ar) (hz : ∀ k, σ.t ≤ k → σ.ws.getD k 0 = 0) (hr : σ.t + sizeK kind n par ≤ σ.ws.length) (hw : σ.ws.length ≤ 4096) (m : Nat) (ho : σ.ops ≤ m) :
    OkK (pkK kind par (σ.t + 1)) (firstK kind n par (σ.t + 1) { σ with t := σ.t + sizeK kind n par }).1 (firstK kind n par (σ.t + 1) { σ with t := σ.t + sizeK kind n par }).2 n m := by
  obtain ⟨⟨k1, k5⟩, ⟨n1, n2⟩, ha1, ha3⟩ := hM
  have hzr := zr_take hr hz
  rcases (show kind = 1 ∨ kind = 2 ∨ kind = 3 ∨ kind = 4 ∨ kind = 5 by omega) with rfl | rfl | rfl | rfl | rfl
  · obtain ⟨m1, m2⟩ := ha1 rfl
    exact Ta.ok_st hzr par m1 m2 n m (by show σ.ops ≤ _; omega)
  · exact Tk.ok_st hzr n m (by show σ.ops ≤ _; omega) (by have : sizeK 2 n par = 2 := rfl; omega)
  · obtain ⟨p1, p2⟩ := ha3 rfl
    obtain ⟨p, rfl⟩ := Int.eq_ofNat_of_zero_le (show 0 ≤ par by omega)
    have h9 : sizeK 3 n (p : Int) = 1 + p := rfl
    rw [h9] at hr
    exact Pt.ok_st (p := p) hzr (by omega) (by omega) n m ho (by omega)
  · exact Mc.ok_st hzr n2 m (by show σ.ops ≤ _; omega) (by have : sizeK 4 n par = 1 + 2 * n := rfl; omega)
  · exact Cl.ok_st hzr n2 m ho (by have : sizeK 5 n par = n + 2 := rfl; omega)
end Go.Proofs.YtfmiioddhpkdkaaGreat.Fl

/- What a thread is at, by its spot. -/
namespace Go.Proofs.YtfmiioddhpkdkaaGreat.Ga
open Go.RowKit Go.Proofs.YtfmiioddhpkdkaaGreat.Ara Go.Proofs.YtfmiioddhpkdkaaGreat.Lok

def gst (s : Sp) : Int := if s.pc = 0 then 0 else if s.pc < 10 then 1 else if s.pc = 10 then 2 else 3
end Go.Proofs.YtfmiioddhpkdkaaGreat.Ga

/- Package locks: a lock of any kind, by its machine. -/
namespace Go.Proofs.YtfmiioddhpkdkaaGreat.Lk
open Go.RowKit Go.Proofs.YtfmiioddhpkdkaaGreat.Ara Go.Proofs.YtfmiioddhpkdkaaGreat.Lok Go.Proofs.YtfmiioddhpkdkaaGreat.Ga

def LkB (W : World) (gl : Nat) (kind T : Int) (Ty : TypeId) (v : Value) : Prop := W.heap[gl]? = some (.cells #[.int .i64 kind, .int .i64 T, .iface Ty v] 115 (0, 0))
theorem LkB.same {W W' : World} {gl : Nat} {kind T : Int} {Ty : TypeId} {v : Value} (h : LkB W gl kind T Ty v) (b : Below W.heap.size W W') : LkB W' gl kind T Ty v := (b.block _ (lt_of_blk h)).trans h
theorem LkB.mod {W W' : World} {gl : Nat} {kind T : Int} {Ty : TypeId} {v : Value} (h : LkB W gl kind T Ty v) {S : List Nat} (hm : Mod S W W') (hn : gl ∉ S) : LkB W' gl kind T Ty v := hm.blk h hn
theorem sfld (a b c d : Int) (W : World) : (Instr.field 134 (.agg #[.int .i64 a, .int .i64 b, .int .i64 c, .int .i64 d]) 0).run Tryz.prog W = .ok (.int .i64 a) W := by
  simp [Instr.field, run_underlying Tryz.underlying134, asAgg, go_sem]
theorem sfld1 (a b c d : Int) (W : World) : (Instr.field 134 (.agg #[.int .i64 a, .int .i64 b, .int .i64 c, .int .i64 d]) 1).run Tryz.prog W = .ok (.int .i64 b) W := by
  simp [Instr.field, run_underlying Tryz.underlying134, asAgg, go_sem]
def vSp (s : Sp) : Value := .agg #[.int .i64 s.pc, .int .i64 s.a, .int .i64 s.b, .int .i64 s.c]
section
variable (gl : Nat) (kind T : Int) (Ty : TypeId) (v : Value) (w : World) (H : LkB w gl kind T Ty v)
include H
theorem threads_lk : Calls Tryz.prog 45 #[.pointer (some ⟨gl, 0, none⟩)] w fun e w' => e = .returned (.int .i64 T) ∧ w' = w := by
  have c0 := blk_cell H 0 (by simp)
  have c1 := blk_cell H 1 (by simp)
  have c2 := blk_cell H 2 (by simp)
  simp at c0 c1 c2
  clear H
  go_enter Tryz.func45, Tryz.ntmps45
  go_wp2_with fail
  go_ret
  exact ⟨rfl, rfl⟩
theorem has_in (i : Int) (h0 : 0 ≤ i) (h1 : i < T) : Calls Tryz.prog 62 #[.pointer (some ⟨gl, 0, none⟩), .int .i64 i] w fun e w' => e = .returned (.bool true) ∧ w' = w := by
  have HT := Lib.hid (threads_lk gl kind T Ty v w H)
  clear H
  go_enter Tryz.func62, Tryz.ntmps62
  go_wp2_with fail
  refine (HT.out).mono ?_
  rintro e wx ⟨rfl, hwx⟩
  obtain rfl := hwx.symm
  go_wp2_with fail
  go_ret
  exact ⟨rfl, rfl⟩
theorem has_out (i : Int) (h : i < 0 ∨ T ≤ i) : Calls Tryz.prog 62 #[.pointer (some ⟨gl, 0, none⟩), .int .i64 i] w fun e w' => e = .returned (.bool false) ∧ w' = w := by
  have HT := Lib.hid (threads_lk gl kind T Ty v w H)
  clear H
  by_cases h0 : 0 ≤ i
  · have h1 : ¬ i < T := by omega
    have h2 : decide (i < T) = false := decide_eq_false h1
    go_enter Tryz.func62, Tryz.ntmps62
    go_wp2_with fail
    refine (HT.out).mono ?_
    rintro e wx ⟨rfl, hwx⟩
    obtain rfl := hwx.symm
    go_wp2_with fail
    go_ret
    exact ⟨rfl, rfl⟩
  · go_enter Tryz.func62, Tryz.ntmps62
    go_wp2_with fail
    go_ret
    exact ⟨rfl, rfl⟩
variable (F : FuncId) (r : Value) (hc : ∀ a W, (callFunc F a).run Tryz.prog W = .ok (.enter F a) W)
set_option maxRecDepth 100000 in
theorem Leave_gen (hc : ∀ a W, (callFunc F a).run Tryz.prog W = .ok (.enter F a) W) (hm : ∀ W, (method 456 Ty v "Leave").run Tryz.prog W = .ok (F, r) W) (i : Int) (h0 : 0 ≤ i) (h1 : i < T) (b : Bool) (R : World → Prop) (HC : Calls Tryz.prog F #[r, .int .i64 i] w fun e w' => e = .returned (.bool b) ∧ R w') :
    Calls Tryz.prog 49 #[.pointer (some ⟨gl, 0, none⟩), .int .i64 i] w fun e w' => e = .returned (.bool b) ∧ R w' := by
  have HH := Lib.hid (has_in gl kind T Ty v w H i h0 h1)
  have c0 := blk_cell H 0 (by simp)
  have c1 := blk_cell H 1 (by simp)
  have c2 := blk_cell H 2 (by simp)
  simp at c0 c1 c2
  replace HC := Lib.hid HC
  clear H
  go_enter Tryz.func49, Tryz.ntmps49
  go_wp2_with fail
  refine (HH.out).mono ?_
  rintro e wx ⟨rfl, hwx⟩
  obtain rfl := hwx.symm
  go_wp2_with fail
  refine HC.out.mono ?_
  rintro e w2 ⟨rfl, h2⟩
  replace h2 := Lib.hid h2
  go_wp2_with fail
  go_ret
  exact ⟨rfl, h2.out⟩
set_option maxRecDepth 100000 in
theorem Step_gen (hc : ∀ a W, (callFunc F a).run Tryz.prog W = .ok (.enter F a) W) (hm : ∀ W, (method 456 Ty v "Step").run Tryz.prog W = .ok (F, r) W) (i : Int) (h0 : 0 ≤ i) (h1 : i < T) (b : Bool) (R : World → Prop) (HC : Calls Tryz.prog F #[r, .int .i64 i] w fun e w' => e = .returned (.bool b) ∧ R w') :
    Calls Tryz.prog 46 #[.pointer (some ⟨gl, 0, none⟩), .int .i64 i] w fun e w' => e = .returned (.bool b) ∧ R w' := by
  have HH := Lib.hid (has_in gl kind T Ty v w H i h0 h1)
  have c0 := blk_cell H 0 (by simp)
  have c1 := blk_cell H 1 (by simp)
  have c2 := blk_cell H 2 (by simp)
  simp at c0 c1 c2
  replace HC := Lib.hid HC
  clear H
  go_enter Tryz.func46, Tryz.ntmps46
  go_wp2_with fail
  refine (HH.out).mono ?_
  rintro e wx ⟨rfl, hwx⟩
  obtain rfl := hwx.symm
  go_wp2_with fail
  refine HC.out.mono ?_
  rintro e w2 ⟨rfl, h2⟩
  replace h2 := Lib.hid h2
  go_wp2_with fail
  go_ret
  exact ⟨rfl, h2.out⟩
set_option maxRecDepth 100000 in
theorem Ask_gen (hc : ∀ a W, (callFunc F a).run Tryz.prog W = .ok (.enter F a) W) (hm : ∀ W, (method 456 Ty v "Ask").run Tryz.prog W = .ok (F, r) W) (i : Int) (rd : Bool) (h0 : 0 ≤ i) (h1 : i < T) (b : Bool) (R : World → Prop) (HC : Calls Tryz.prog F #[r, .int .i64 i, .bool rd] w fun e w' => e = .returned (.bool b) ∧ R w') :
    Calls Tryz.prog 48 #[.pointer (some ⟨gl, 0, none⟩), .int .i64 i, .bool rd] w fun e w' => e = .returned (.bool b) ∧ R w' := by
  have HH := Lib.hid (has_in gl kind T Ty v w H i h0 h1)
  have c0 := blk_cell H 0 (by simp)
  have c1 := blk_cell H 1 (by simp)
  have c2 := blk_cell H 2 (by simp)
  simp at c0 c1 c2
  replace HC := Lib.hid HC
  clear H
  go_enter Tryz.func48, Tryz.ntmps48
  go_wp2_with fail
  refine (HH.out).mono ?_
  rintro e wx ⟨rfl, hwx⟩
  obtain rfl := hwx.symm
  go_wp2_with fail
  refine HC.out.mono ?_
  rintro e w2 ⟨rfl, h2⟩
  replace h2 := Lib.hid h2
  go_wp2_with fail
  go_ret
  exact ⟨rfl, h2.out⟩
set_option maxRecDepth 100000 in
theorem Count_gen (hc : ∀ a W, (callFunc F a).run Tryz.prog W = .ok (.enter F a) W) (hm : ∀ W, (method 456 Ty v "Count").run Tryz.prog W = .ok (F, r) W) (i : Int) (h0 : 0 ≤ i) (h1 : i < T) (b : Int) (R : World → Prop) (HC : Calls Tryz.prog F #[r, .int .i64 i] w fun e w' => e = .returned (.int .i64 b) ∧ R w') :
    Calls Tryz.prog 47 #[.pointer (some ⟨gl, 0, none⟩), .int .i64 i] w fun e w' => e = .returned (.int .i64 b) ∧ R w' := by
  have HH := Lib.hid (has_in gl kind T Ty v w H i h0 h1)
  have c0 := blk_cell H 0 (by simp)
  have c1 := blk_cell H 1 (by simp)
  have c2 := blk_cell H 2 (by simp)
  simp at c0 c1 c2
  replace HC := Lib.hid HC
  clear H
  go_enter Tryz.func47, Tryz.ntmps47
  go_wp2_with fail
  refine (HH.out).mono ?_
  rintro e wx ⟨rfl, hwx⟩
  obtain rfl := hwx.symm
  go_wp2_with fail
  refine HC.out.mono ?_
  rintro e w2 ⟨rfl, h2⟩
  replace h2 := Lib.hid h2
  go_wp2_with fail
  go_ret
  exact ⟨rfl, h2.out⟩
end
end Go.Proofs.YtfmiioddhpkdkaaGreat.Lk

/- Package locks: Spot, State, Reads; the names of the kinds. -/
namespace Go.Proofs.YtfmiioddhpkdkaaGreat.Lk
open Go.RowKit Go.Proofs.YtfmiioddhpkdkaaGreat.Ara Go.Proofs.YtfmiioddhpkdkaaGreat.Lok Go.Proofs.YtfmiioddhpkdkaaGreat.Ga

def shK (kind : Int) : Bool := decide (11 ≤ kind) && decide (kind ≤ 13)
theorem shares_any (kind : Int) (w : World) : Calls Tryz.prog 32 #[.int .i64 kind] w fun e w' => e = .returned (.bool (shK kind)) ∧ w' = w := by
  unfold shK
  by_cases h1 : 11 ≤ kind
  · by_cases h2 : kind ≤ 13
    · have h3 : (decide (11 ≤ kind) && decide (kind ≤ 13)) = true := by simp [h1, h2]
      rw [h3]
      clear h3
      go_enter Tryz.func32, Tryz.ntmps32
      go_wp2_with fail
      go_ret
      exact ⟨rfl, rfl⟩
    · have h3 : (decide (11 ≤ kind) && decide (kind ≤ 13)) = false := by simp [h2]
      rw [h3]
      clear h3
      go_enter Tryz.func32, Tryz.ntmps32
      go_wp2_with fail
      go_ret
      exact ⟨rfl, rfl⟩
  · have h3 : (decide (11 ≤ kind) && decide (kind ≤ 13)) = false := by simp [h1]
    rw [h3]
    clear h3
    go_enter Tryz.func32, Tryz.ntmps32
    go_wp2_with fail
    go_ret
    exact ⟨rfl, rfl⟩
section
variable (gl : Nat) (kind T : Int) (Ty : TypeId) (v : Value) (w : World) (H : LkB w gl kind T Ty v)
include H
variable (F : FuncId) (r : Value) (hc : ∀ a W, (callFunc F a).run Tryz.prog W = .ok (.enter F a) W)
set_option maxRecDepth 100000 in
theorem Spot_gen (hc : ∀ a W, (callFunc F a).run Tryz.prog W = .ok (.enter F a) W) (hm : ∀ W, (method 456 Ty v "Spot").run Tryz.prog W = .ok (F, r) W) (i : Int) (h0 : 0 ≤ i) (h1 : i < T) (s : Sp) (HC : ∀ W, Below w.heap.size w W → Calls Tryz.prog F #[r, .int .i64 i] W fun e w' => e = .returned (vSp s) ∧ Below W.heap.size W w') :
    Calls Tryz.prog 61 #[.pointer (some ⟨gl, 0, none⟩), .int .i64 i] w fun e w' => e = .returned (vSp s) ∧ Below w.heap.size w w' := by
  have hb := below_new w (.cells #[.int .i64 0, .int .i64 0, .int .i64 0, .int .i64 0] 134)
  have hx := blk_new w (.cells #[.int .i64 0, .int .i64 0, .int .i64 0, .int .i64 0] 134)
  have HB := Lib.hid hb
  have HX := Lib.hid hx
  have H1 := LkB.same H hb
  have HH := Lib.hid (has_in gl kind T Ty v _ H1 i h0 h1)
  replace HC := Lib.hid (HC _ hb)
  have c0 := blk_cell H1 0 (by simp)
  have c1 := blk_cell H1 1 (by simp)
  have c2 := blk_cell H1 2 (by simp)
  simp at c0 c1 c2
  clear H H1 hb hx
  go_enter Tryz.func61, Tryz.ntmps61
  go_wp2_with fail
  refine (HH.out).mono ?_
  rintro e wx ⟨rfl, hwx⟩
  obtain rfl := hwx.symm
  go_wp2_with fail
  refine HC.out.mono ?_
  rintro e w2 ⟨rfl, h2⟩
  have hs2 := h2.size
  have HX2 := Lib.hid ((Mod.of_below (S := []) h2).blk HX.out (by simp))
  have HB2 := Lib.hid (HB.out.trans (h2.mono HB.out.size))
  clear HX HB HC HH c0 c1 c2 h2
  unfold vSp
  obtain ⟨sa, sb, sc, sd⟩ := s
  have d0 := blk_cell HX2.out 0 (by simp)
  have d1 := blk_cell HX2.out 1 (by simp)
  have d2 := blk_cell HX2.out 2 (by simp)
  have d3 := blk_cell HX2.out 3 (by simp)
  simp only [List.getElem_toArray, List.getElem_cons_zero, List.getElem_cons_succ] at d0 d1 d2 d3
  have f0 := blk_free HX2.out 0
  have f1 := blk_free HX2.out 1
  have f2 := blk_free HX2.out 2
  have f3 := blk_free HX2.out 3
  have k0 := blk_set HX2.out 0 (.int .i64 sa)
  have k1 := blk_set k0 1 (.int .i64 sb)
  have k2 := blk_set k1 2 (.int .i64 sc)
  have k3 := blk_set k2 3 (.int .i64 sd)
  have g0 := blk_cell k0 0 (by simp)
  have g1 := blk_cell k1 1 (by simp)
  have g2 := blk_cell k2 2 (by simp)
  have g3 := blk_cell k3 3 (by simp)
  simp at g0 g1 g2 g3
  clear k0 k1 k2 k3
  go_wp2_with fail
  refine bodyPost_ret (v := .agg #[.int .i64 sa, .int .i64 sb, .int .i64 sc, .int .i64 sd]) ?_ rfl ⟨rfl, ?_⟩
  · simp [results, Tryz.results61, go_sem, g0, g1, g2, g3]
  · exact (((HB2.out.setCell (Nat.le_refl _) _).setCell (Nat.le_refl _) _).setCell (Nat.le_refl _) _).setCell (Nat.le_refl _) _
end
section
variable (gl : Nat) (w : World) (i : Int) (s : Sp) (HC : ∀ W, Below w.heap.size w W → Calls Tryz.prog 61 #[.pointer (some ⟨gl, 0, none⟩), .int .i64 i] W fun e w' => e = .returned (vSp s) ∧ Below W.heap.size W w')
include HC
set_option maxRecDepth 100000 in
theorem State_gen : Calls Tryz.prog 43 #[.pointer (some ⟨gl, 0, none⟩), .int .i64 i] w fun e w' => e = .returned (.int .i64 (gst s)) ∧ Below w.heap.size w w' := by
  have hf := fun a b c d W => sfld a b c d W
  have HS := Lib.hid (HC _ (Below.refl _ _))
  unfold gst
  clear HC
  unfold vSp at HS
  by_cases h0 : s.pc = 0
  · rw [if_pos h0]
    go_enter Tryz.func43, Tryz.ntmps43
    go_wp2_with fail
    refine HS.out.mono ?_
    rintro e w2 ⟨rfl, h2⟩
    have h2 := Lib.hid h2
    go_wp2_with fail
    go_ret
    exact ⟨rfl, h2.out⟩
  rw [if_neg h0]
  have e0 := ibeq_no h0
  by_cases h1 : s.pc < 10
  · rw [if_pos h1]
    go_enter Tryz.func43, Tryz.ntmps43
    go_wp2_with fail
    refine HS.out.mono ?_
    rintro e w2 ⟨rfl, h2⟩
    have h2 := Lib.hid h2
    go_wp2_with fail
    go_ret
    exact ⟨rfl, h2.out⟩
  rw [if_neg h1]
  by_cases h2 : s.pc = 10
  · rw [if_pos h2]
    have e1 := ibeq h2
    go_enter Tryz.func43, Tryz.ntmps43
    go_wp2_with fail
    refine HS.out.mono ?_
    rintro e w2 ⟨rfl, h2⟩
    have h2 := Lib.hid h2
    go_wp2_with fail
    go_ret
    exact ⟨rfl, h2.out⟩
  rw [if_neg h2]
  have e1 := ibeq_no h2
  go_enter Tryz.func43, Tryz.ntmps43
  go_wp2_with fail
  refine HS.out.mono ?_
  rintro e w2 ⟨rfl, h2⟩
  have h2 := Lib.hid h2
  go_wp2_with fail
  go_ret
  exact ⟨rfl, h2.out⟩
end
def rdS (kind : Int) (s : Sp) : Bool := decide (s.pc ≠ 0) && shK kind && decide (s.a = 1)
theorem gst_no {s : Sp} (h : ¬ s.pc = 0) : ¬ gst s = 0 := by unfold gst; rw [if_neg h]; repeat (first | split | omega)
section
variable (gl : Nat) (kind T : Int) (Ty : TypeId) (v : Value) (w : World) (H : LkB w gl kind T Ty v) (i : Int) (s : Sp) (HC : ∀ W, Below w.heap.size w W → Calls Tryz.prog 61 #[.pointer (some ⟨gl, 0, none⟩), .int .i64 i] W fun e w' => e = .returned (vSp s) ∧ Below W.heap.size W w')
include H HC
set_option maxRecDepth 100000 in
theorem Reads_gen : Calls Tryz.prog 44 #[.pointer (some ⟨gl, 0, none⟩), .int .i64 i] w fun e w' => e = .returned (.bool (rdS kind s)) ∧ Below w.heap.size w w' := by
  have hf := fun a b c d W => sfld1 a b c d W
  have HS := Lib.hid (State_gen gl w i s HC)
  have HQ := Lib.hid HC
  have HL := Lib.hid H
  clear H HC
  unfold rdS
  by_cases h0 : s.pc = 0
  · have hg : gst s = 0 := by unfold gst; rw [if_pos h0]
    have hr : (decide (s.pc ≠ 0) && shK kind && decide (s.a = 1)) = false := by simp [h0]
    rw [hr]
    rw [hg] at HS
    clear hg hr h0
    go_enter Tryz.func44, Tryz.ntmps44
    go_wp2_with fail
    refine HS.out.mono ?_
    rintro e w2 ⟨rfl, h2⟩
    have h2 := Lib.hid h2
    go_wp2_with fail
    go_ret
    exact ⟨rfl, h2.out⟩
  have hg := gst_no h0
  have h1 : decide (s.pc ≠ 0) = true := decide_eq_true h0
  rw [h1]
  clear h0 h1
  generalize gst s = g at *
  have e0 := ibne hg
  by_cases hk : shK kind = true
  · rw [hk]
    unfold vSp at HQ
    by_cases ha : s.a = 1
    · have hr : (true && true && decide (s.a = 1)) = true := by simp [ha]
      rw [hr]
      have e1 := ibeq ha
      clear hr
      go_enter Tryz.func44, Tryz.ntmps44
      go_wp2_with fail
      refine HS.out.mono ?_
      rintro e w2 ⟨rfl, h2⟩
      have HL2 := HL.out.same h2
      have c0 := blk_cell HL2 0 (by simp)
      simp at c0
      have h2 := Lib.hid h2
      have HSp := Lib.hid (HQ.out _ h2.out)
      clear HL2
      go_wp2_with fail
      refine (shares_any kind _).mono ?_
      rintro e wx ⟨rfl, hwx⟩
      obtain rfl := hwx.symm
      rw [hk]
      go_wp2_with fail
      refine HSp.out.mono ?_
      rintro e w3 ⟨rfl, h3⟩
      have h3 := Lib.hid (h2.out.trans (h3.mono h2.out.size))
      go_wp2_with fail
      go_ret
      exact ⟨rfl, h3.out⟩
    · have hr : (true && true && decide (s.a = 1)) = false := by simp [ha]
      rw [hr]
      have e1 := ibeq_no ha
      clear hr
      go_enter Tryz.func44, Tryz.ntmps44
      go_wp2_with fail
      refine HS.out.mono ?_
      rintro e w2 ⟨rfl, h2⟩
      have HL2 := HL.out.same h2
      have c0 := blk_cell HL2 0 (by simp)
      simp at c0
      have h2 := Lib.hid h2
      have HSp := Lib.hid (HQ.out _ h2.out)
      clear HL2
      go_wp2_with fail
      refine (shares_any kind _).mono ?_
      rintro e wx ⟨rfl, hwx⟩
      obtain rfl := hwx.symm
      rw [hk]
      go_wp2_with fail
      refine HSp.out.mono ?_
      rintro e w3 ⟨rfl, h3⟩
      have h3 := Lib.hid (h2.out.trans (h3.mono h2.out.size))
      go_wp2_with fail
      go_ret
      exact ⟨rfl, h3.out⟩
  · have hk : shK kind = false := by simpa using hk
    rw [hk]
    have hr : (true && false && decide (s.a = 1)) = false := by simp
    rw [hr]
    clear hr
    go_enter Tryz.func44, Tryz.ntmps44
    go_wp2_with fail
    refine HS.out.mono ?_
    rintro e w2 ⟨rfl, h2⟩
    have HL2 := HL.out.same h2
    have c0 := blk_cell HL2 0 (by simp)
    simp at c0
    have h2 := Lib.hid h2
    clear HL2
    go_wp2_with fail
    refine (shares_any kind _).mono ?_
    rintro e wx ⟨rfl, hwx⟩
    obtain rfl := hwx.symm
    rw [hk]
    go_wp2_with fail
    go_ret
    exact ⟨rfl, h2.out⟩
end
end Go.Proofs.YtfmiioddhpkdkaaGreat.Lk

/- Package locks: the names of the kinds that a world of ours has. -/
namespace Go.Proofs.YtfmiioddhpkdkaaGreat.Lk
open Go.RowKit Go.Proofs.YtfmiioddhpkdkaaGreat.Ara

set_option maxRecDepth 100000 in
theorem name_2 (w : World) : Calls Tryz.prog 56 #[.int .i64 2] w fun e w' => e = .returned (.string ⟨#[116, 105, 99, 107, 101, 116]⟩) ∧ Below w.heap.size w w' := by
  go_enter Tryz.func56, Tryz.ntmps56
  go_wp2_with fail
  go_ret
  exact ⟨rfl, below_new _ _⟩
set_option maxRecDepth 100000 in
theorem name_3 (w : World) : Calls Tryz.prog 56 #[.int .i64 3] w fun e w' => e = .returned (.string ⟨#[112, 97, 114, 116, 101, 100]⟩) ∧ Below w.heap.size w w' := by
  go_enter Tryz.func56, Tryz.ntmps56
  go_wp2_with fail
  go_ret
  exact ⟨rfl, below_new _ _⟩
set_option maxRecDepth 100000 in
theorem name_4 (w : World) : Calls Tryz.prog 56 #[.int .i64 4] w fun e w' => e = .returned (.string ⟨#[109, 99, 115]⟩) ∧ Below w.heap.size w w' := by
  go_enter Tryz.func56, Tryz.ntmps56
  go_wp2_with fail
  go_ret
  exact ⟨rfl, below_new _ _⟩
set_option maxRecDepth 100000 in
theorem name_5 (w : World) : Calls Tryz.prog 56 #[.int .i64 5] w fun e w' => e = .returned (.string ⟨#[99, 108, 104]⟩) ∧ Below w.heap.size w w' := by
  go_enter Tryz.func56, Tryz.ntmps56
  go_wp2_with fail
  go_ret
  exact ⟨rfl, below_new _ _⟩
set_option maxRecDepth 100000 in
theorem name_6 (w : World) : Calls Tryz.prog 56 #[.int .i64 6] w fun e w' => e = .returned (.string ⟨#[99, 111, 104, 111, 114, 116]⟩) ∧ Below w.heap.size w w' := by
  go_enter Tryz.func56, Tryz.ntmps56
  go_wp2_with fail
  go_ret
  exact ⟨rfl, below_new _ _⟩
end Go.Proofs.YtfmiioddhpkdkaaGreat.Lk

/- Topologies where no text of numbers is: the names that their texts open. -/
namespace Go.Proofs.YtfmiioddhpkdkaaGreat.Li
open Go.RowKit

theorem nx {w a b : World} (h : Below w.heap.size w a) (k : Below a.heap.size a b) : Below w.heap.size w b := h.trans (k.mono h.size)
end Go.Proofs.YtfmiioddhpkdkaaGreat.Li
namespace Go.Proofs.YtfmiioddhpkdkaaGreat.De
open Go.RowKit

theorem infoI : (Tryz.prog.info? 3).map (fun i => (i.zero, i.size, i.bytes)) = some (some (.int .i64 0), 1, 8) := by kernel_rfl
end Go.Proofs.YtfmiioddhpkdkaaGreat.De

