/- Merged texts: Fl5, Fl6, Rfl. -/
import Derived.Test.YthffhhgaeolpgaaGreatGq18
set_option linter.unusedVariables false
/- Package flat: a lock of any kind, as Lean has it, and in memory. -/
namespace Go.Proofs.YthffhhgaeolpgaaGreat.Fl
open Go.RowKit Go.Proofs.YthffhhgaeolpgaaGreat.Ara Go.Proofs.YthffhhgaeolpgaaGreat.Lok

inductive PK where
  | tas (P : Ta.Par)
  | tic (P : Tk.Par)
  | par (P : Pt.Par)
  | mcs (P : Mc.Par)
  | clh (P : Cl.Par)
def PK.num : PK → Int
  | .tas _ => 1
  | .tic _ => 2
  | .par _ => 3
  | .mcs _ => 4
  | .clh _ => 5
def PK.ty : PK → TypeId
  | .tas _ => 101
  | .tic _ => 102
  | .par _ => 105
  | .mcs _ => 108
  | .clh _ => 111
def PK.val (gl : Nat) : PK → Value
  | .tas _ => .agg #[.pointer (some ⟨gl, 0, none⟩)]
  | _ => .pointer (some ⟨gl, 0, none⟩)
def doK : PK → Ar → List Sp → Int → Int → Bool × Ar × List Sp
  | .tas P => Ta.doP P
  | .tic P => Tk.doP P
  | .par P => Pt.doP P
  | .mcs P => Mc.doP P
  | .clh P => Cl.doP P
def OkK : PK → Ar → List Sp → Nat → Nat → Prop
  | .tas P => Ta.OkP P
  | .tic P => Tk.OkP P
  | .par P => Pt.OkP P
  | .mcs P => Mc.OkP P
  | .clh P => Cl.OkP P
theorem PK.num_ne (p : PK) : p.num ≠ 0 := by cases p <;> (simp only [PK.num]; decide)
theorem do_ops (p : PK) (σ : Ar) (sp : List Sp) (kd i : Int) : (doK p σ sp kd i).2.1.ops ≤ σ.ops + 1 ∧ σ.ops ≤ (doK p σ sp kd i).2.1.ops := by
  cases p with
  | tas P => exact Ta.do_ops P σ sp kd i
  | tic P => exact Tk.do_ops P σ sp kd i
  | par P => exact Pt.do_ops P σ sp kd i
  | mcs P => exact Mc.do_ops P σ sp kd i
  | clh P => exact Cl.do_ops P σ sp kd i
theorem do_len (p : PK) (σ : Ar) (sp : List Sp) (kd i : Int) : (doK p σ sp kd i).2.2.length = sp.length := by
  cases p with
  | tas P => exact Ta.do_len P σ sp kd i
  | tic P => exact Tk.do_len P σ sp kd i
  | par P => exact Pt.do_len P σ sp kd i
  | mcs P => exact Mc.do_len P σ sp kd i
  | clh P => exact Cl.do_len P σ sp kd i
theorem do_else (p : PK) (σ : Ar) (sp : List Sp) (kd i : Int) (h : kd < 0 ∨ 3 < kd) : doK p σ sp kd i = (false, σ, sp) := by
  cases p with
  | tas P => show Ta.doP P σ sp kd i = _; unfold Ta.doP; rw [if_neg (by omega), if_neg (by omega), if_neg (by omega), if_neg (by omega)]
  | tic P => show Tk.doP P σ sp kd i = _; unfold Tk.doP; rw [if_neg (by omega), if_neg (by omega), if_neg (by omega), if_neg (by omega)]
  | par P => show Pt.doP P σ sp kd i = _; unfold Pt.doP; rw [if_neg (by omega), if_neg (by omega), if_neg (by omega), if_neg (by omega)]
  | mcs P => show Mc.doP P σ sp kd i = _; unfold Mc.doP; rw [if_neg (by omega), if_neg (by omega), if_neg (by omega), if_neg (by omega)]
  | clh P => show Cl.doP P σ sp kd i = _; unfold Cl.doP; rw [if_neg (by omega), if_neg (by omega), if_neg (by omega), if_neg (by omega)]
section
variable {p : PK} {σ : Ar} {sp : List Sp} {n m : Nat} (h : OkK p σ sp n m)
include h
theorem OkK.act (kd i : Int) : OkK p (doK p σ sp kd i).2.1 (doK p σ sp kd i).2.2 n (m + 1) := by
  cases p with
  | tas P => exact Ta.OkP.act h kd i
  | tic P => exact Tk.OkP.act h kd i
  | par P => exact Pt.OkP.act h kd i
  | mcs P => exact Mc.OkP.act h kd i
  | clh P => exact Cl.OkP.act h kd i
theorem OkK.one : cnt (fun s => s.pc == 10) sp n ≤ 1 := by
  cases p with
  | tas P => exact Ta.OkP.one h
  | tic P => exact Tk.OkP.one h
  | par P => exact Pt.OkP.one h
  | mcs P => exact Mc.OkP.one h
  | clh P => exact Cl.OkP.one h
theorem OkK.len : sp.length = n := by
  cases p with
  | tas P => exact Ta.OkP.len h
  | tic P => exact Tk.OkP.len h
  | par P => exact Pt.OkP.len h
  | mcs P => exact Mc.OkP.len h
  | clh P => exact Cl.OkP.len h
theorem OkK.ops : σ.ops ≤ m + 1 := by
  cases p with
  | tas P => exact Ta.OkP.ops h
  | tic P => exact Tk.OkP.ops h
  | par P => exact Pt.OkP.ops h
  | mcs P => exact Mc.OkP.ops h
  | clh P => exact Cl.OkP.ops h
end
def PK.At (p : PK) (W : World) (gl ga ha hs : Nat) (σ : Ar) (sp : List Sp) : Prop :=
  match p with
  | .tas P => Ta.LkAt W gl ga ha hs P σ sp
  | .tic P => Tk.LkAt W gl ga ha hs P σ sp
  | .par P => Pt.LkAt W gl ga ha hs P σ sp
  | .mcs P => Mc.LkAt W gl ga ha hs P σ sp
  | .clh P => Cl.LkAt W gl ga ha hs P σ sp
theorem PK.At.same {p : PK} {W W' : World} {gl ga ha hs : Nat} {σ : Ar} {sp : List Sp} (k : p.At W gl ga ha hs σ sp) (hb : Below W.heap.size W W') : p.At W' gl ga ha hs σ sp := by
  cases p with
  | tas P => exact Ta.LkAt.same k hb
  | tic P => exact Tk.LkAt.same k hb
  | par P => exact Pt.LkAt.same k hb
  | mcs P => exact Mc.LkAt.same k hb
  | clh P => exact Cl.LkAt.same k hb
theorem PK.At.mod {p : PK} {S : List Nat} {W W' : World} {gl ga ha hs : Nat} {σ : Ar} {sp : List Sp} (k : p.At W gl ga ha hs σ sp) (hm : Mod S W W') (h1 : gl ∉ S) (h2 : ga ∉ S) (h3 : ha ∉ S) (h4 : hs ∉ S) : p.At W' gl ga ha hs σ sp := by
  cases p with
  | tas P => exact Ta.LkAt.mod k hm h1 h2 h3 h4
  | tic P => exact Tk.LkAt.mod k hm h1 h2 h3 h4
  | par P => exact Pt.LkAt.mod k hm h1 h2 h3 h4
  | mcs P => exact Mc.LkAt.mod k hm h1 h2 h3 h4
  | clh P => exact Cl.LkAt.mod k hm h1 h2 h3 h4
theorem PK.At.facts {p : PK} {W : World} {gl ga ha hs : Nat} {σ : Ar} {sp : List Sp} (k : p.At W gl ga ha hs σ sp) : ArAt W ga ha σ ∧ SpAt W hs sp ∧ sp.length ≤ 32 ∧ gl < W.heap.size ∧ (gl ≠ ga ∧ gl ≠ ha ∧ gl ≠ hs ∧ hs ≠ ga ∧ hs ≠ ha) := by
  cases p with
  | tas P => obtain ⟨k1, k2, k3, ⟨c, k4⟩, k5⟩ := k; exact ⟨k1, k2, k3, lt_of_blk k4, k5⟩
  | tic P => obtain ⟨k1, k2, k3, ⟨c, k4⟩, k5⟩ := k; exact ⟨k1, k2, k3, lt_of_blk k4, k5⟩
  | par P => obtain ⟨k1, k2, k3, ⟨c, k4⟩, k5⟩ := k; exact ⟨k1, k2, k3, lt_of_blk k4, k5⟩
  | mcs P => obtain ⟨k1, k2, k3, ⟨c, k4⟩, k5⟩ := k; exact ⟨k1, k2, k3, lt_of_blk k4, k5⟩
  | clh P => obtain ⟨k1, k2, k3, ⟨c, k4⟩, k5⟩ := k; exact ⟨k1, k2, k3, lt_of_blk k4, k5⟩
structure FLAt (W : World) (gf gl ga ha hs : Nat) (p : PK) (σ : Ar) (sp : List Sp) : Prop where
  fb : FlB W gf p.num p.ty (p.val gl)
  at_ : p.At W gl ga ha hs σ sp
  n1 : gf ≠ ga
  n2 : gf ≠ ha
  n3 : gf ≠ hs
theorem FLAt.same {W W' : World} {gf gl ga ha hs : Nat} {p : PK} {σ : Ar} {sp : List Sp} (k : FLAt W gf gl ga ha hs p σ sp) (hb : Below W.heap.size W W') : FLAt W' gf gl ga ha hs p σ sp := ⟨FlB.same k.fb hb, k.at_.same hb, k.n1, k.n2, k.n3⟩
theorem FLAt.mod {S : List Nat} {W W' : World} {gf gl ga ha hs : Nat} {p : PK} {σ : Ar} {sp : List Sp} (k : FLAt W gf gl ga ha hs p σ sp) (hm : Mod S W W') (h0 : gf ∉ S) (h1 : gl ∉ S) (h2 : ga ∉ S) (h3 : ha ∉ S) (h4 : hs ∉ S) : FLAt W' gf gl ga ha hs p σ sp := ⟨FlB.mod k.fb hm h0, k.at_.mod hm h1 h2 h3 h4, k.n1, k.n2, k.n3⟩
theorem FLAt.acts {W W' : World} {gf gl ga ha hs : Nat} {p : PK} {σ σ' : Ar} {sp sp' : List Sp} (k : FLAt W gf gl ga ha hs p σ sp) (h : p.At W' gl ga ha hs σ' sp') (hm : Mod [ga, ha, hs] W W') : FLAt W' gf gl ga ha hs p σ' sp' := by
  have h1 := k.n1
  have h2 := k.n2
  have h3 := k.n3
  exact ⟨FlB.mod k.fb hm (by simp; omega), h, h1, h2, h3⟩
theorem FLAt.blocks {W : World} {gf gl ga ha hs : Nat} {p : PK} {σ : Ar} {sp : List Sp} (k : FLAt W gf gl ga ha hs p σ sp) : gf < W.heap.size ∧ gl < W.heap.size ∧ ga < W.heap.size ∧ hs < W.heap.size :=
  ⟨lt_of_blk k.fb, k.at_.facts.2.2.2.1, k.at_.facts.1.lt, k.at_.facts.2.1.lt⟩
def AftK (b : Bool) (gl ga ha hs : Nat) (p : PK) (σ : Ar) (sp : List Sp) (w : World) (w' : World) : Prop := p.At w' gl ga ha hs σ sp ∧ Mod [ga, ha, hs] w w'
section
variable {gf gl ga ha hs : Nat} {p : PK} {σ : Ar} {sp : List Sp} {w : World} (K : FLAt w gf gl ga ha hs p σ sp)
include K
theorem kind_fl : Calls Tryz.prog 27 #[.pointer (some ⟨gf, 0, none⟩)] w fun e w' => e = .returned (.int .i64 p.num) ∧ w' = w := kind_yes gf p.num p.ty (p.val gl) w K.fb p.num_ne
theorem Ask_flat (n m : Nat) (ho : OkK p σ sp n m) (hm : m ≤ 100000) (i : Int) : Calls Tryz.prog 50 #[.pointer (some ⟨gf, 0, none⟩), .int .i64 i] w fun e w' => e = .returned (.bool (doK p σ sp 1 i).1) ∧ FLAt w' gf gl ga ha hs p (doK p σ sp 1 i).2.1 (doK p σ sp 1 i).2.2 ∧ Mod [ga, ha, hs] w w' := by
  suffices h : Calls Tryz.prog 50 #[.pointer (some ⟨gf, 0, none⟩), .int .i64 i] w fun e w' => e = .returned (.bool (doK p σ sp 1 i).1) ∧ (p.At w' gl ga ha hs (doK p σ sp 1 i).2.1 (doK p σ sp 1 i).2.2 ∧ Mod [ga, ha, hs] w w') from
    h.mono fun e w' ⟨h1, h2, h3⟩ => ⟨h1, K.acts h2 h3, h3⟩
  cases p with
  | tas P => exact Ask_gen gf 1 (by decide) _ _ _ _ w c1_Ask (m1_Ask gl) K.fb i _ _ ((Ta.ask_lk gl ga ha hs P σ sp w K.at_ i).mono fun e w' ⟨a, b, c⟩ => ⟨a, b, c.sub (by simp)⟩)
  | tic P => exact Ask_gen gf 2 (by decide) _ _ _ _ w c2_Ask (m2_Ask gl) K.fb i _ _ ((Tk.Ask_lk gl ga ha hs P σ sp w K.at_ i).mono fun e w' ⟨a, b, c⟩ => ⟨a, b, c.sub (by simp)⟩)
  | par P => exact Ask_gen gf 3 (by decide) _ _ _ _ w c3_Ask (m3_Ask gl) K.fb i _ _ ((Pt.Ask_lk gl ga ha hs P σ sp w K.at_ i).mono fun e w' ⟨a, b, c⟩ => ⟨a, b, c.sub (by simp)⟩)
  | mcs P => exact Ask_gen gf 4 (by decide) _ _ _ _ w c4_Ask (m4_Ask gl) K.fb i _ _ ((Mc.Ask_lk gl ga ha hs P σ sp w K.at_ i).mono fun e w' ⟨a, b, c⟩ => ⟨a, b, c.sub (by simp)⟩)
  | clh P => exact Ask_gen gf 5 (by decide) _ _ _ _ w c5_Ask (m5_Ask gl) K.fb i _ _ ((Cl.Ask_lk gl ga ha hs P σ sp w K.at_ i).mono fun e w' ⟨a, b, c⟩ => ⟨a, b, c.sub (by simp)⟩)
theorem Leave_flat (n m : Nat) (ho : OkK p σ sp n m) (hm : m ≤ 100000) (i : Int) : Calls Tryz.prog 53 #[.pointer (some ⟨gf, 0, none⟩), .int .i64 i] w fun e w' => e = .returned (.bool (doK p σ sp 2 i).1) ∧ FLAt w' gf gl ga ha hs p (doK p σ sp 2 i).2.1 (doK p σ sp 2 i).2.2 ∧ Mod [ga, ha, hs] w w' := by
  suffices h : Calls Tryz.prog 53 #[.pointer (some ⟨gf, 0, none⟩), .int .i64 i] w fun e w' => e = .returned (.bool (doK p σ sp 2 i).1) ∧ (p.At w' gl ga ha hs (doK p σ sp 2 i).2.1 (doK p σ sp 2 i).2.2 ∧ Mod [ga, ha, hs] w w') from
    h.mono fun e w' ⟨h1, h2, h3⟩ => ⟨h1, K.acts h2 h3, h3⟩
  cases p with
  | tas P => exact Leave_gen gf 1 (by decide) _ _ _ _ w c1_Leave (m1_Leave gl) K.fb i _ _ ((Ta.leave_lk gl ga ha hs P σ sp w K.at_ i).mono fun e w' ⟨a, b, c⟩ => ⟨a, b, c.sub (by simp)⟩)
  | tic P => exact Leave_gen gf 2 (by decide) _ _ _ _ w c2_Leave (m2_Leave gl) K.fb i _ _ ((Tk.Leave_lk gl ga ha hs P σ sp w K.at_ i).mono fun e w' ⟨a, b, c⟩ => ⟨a, b, c.sub (by simp)⟩)
  | par P => exact Leave_gen gf 3 (by decide) _ _ _ _ w c3_Leave (m3_Leave gl) K.fb i _ _ ((Pt.Leave_lk gl ga ha hs P σ sp w K.at_ i).mono fun e w' ⟨a, b, c⟩ => ⟨a, b, c.sub (by simp)⟩)
  | mcs P => exact Leave_gen gf 4 (by decide) _ _ _ _ w c4_Leave (m4_Leave gl) K.fb i _ _ ((Mc.Leave_lk gl ga ha hs P σ sp w K.at_ i).mono fun e w' ⟨a, b, c⟩ => ⟨a, b, c.sub (by simp)⟩)
  | clh P => exact Leave_gen gf 5 (by decide) _ _ _ _ w c5_Leave (m5_Leave gl) K.fb i _ _ ((Cl.Leave_lk gl ga ha hs P σ sp w K.at_ i).mono fun e w' ⟨a, b, c⟩ => ⟨a, b, c.sub (by simp)⟩)
theorem Step_flat (n m : Nat) (ho : OkK p σ sp n m) (hm : m ≤ 100000) (i : Int) : Calls Tryz.prog 52 #[.pointer (some ⟨gf, 0, none⟩), .int .i64 i] w fun e w' => e = .returned (.bool (doK p σ sp 0 i).1) ∧ FLAt w' gf gl ga ha hs p (doK p σ sp 0 i).2.1 (doK p σ sp 0 i).2.2 ∧ Mod [ga, ha, hs] w w' := by
  suffices h : Calls Tryz.prog 52 #[.pointer (some ⟨gf, 0, none⟩), .int .i64 i] w fun e w' => e = .returned (.bool (doK p σ sp 0 i).1) ∧ (p.At w' gl ga ha hs (doK p σ sp 0 i).2.1 (doK p σ sp 0 i).2.2 ∧ Mod [ga, ha, hs] w w') from
    h.mono fun e w' ⟨h1, h2, h3⟩ => ⟨h1, K.acts h2 h3, h3⟩
  cases p with
  | tas P => exact Step_gen gf 1 (by decide) _ _ _ _ w c1_Step (m1_Step gl) K.fb i _ _ (Ta.step_lk gl ga ha hs P σ sp w K.at_ (Ta.OkP.inv ho) (by have := Ta.OkP.ops ho; omega) i)
  | tic P => exact Step_gen gf 2 (by decide) _ _ _ _ w c2_Step (m2_Step gl) K.fb i _ _ (Tk.step_lk gl ga ha hs P σ sp w K.at_ (Tk.OkP.num ho hm) i)
  | par P => exact Step_gen gf 3 (by decide) _ _ _ _ w c3_Step (m3_Step gl) K.fb i _ _ (Pt.step_lk gl ga ha hs P σ sp w K.at_ (Pt.OkP.num ho hm) i)
  | mcs P => exact Step_gen gf 4 (by decide) _ _ _ _ w c4_Step (m4_Step gl) K.fb i _ _ (Mc.step_lk gl ga ha hs P σ sp w K.at_ (Mc.OkP.num ho hm) i)
  | clh P => exact Step_gen gf 5 (by decide) _ _ _ _ w c5_Step (m5_Step gl) K.fb i _ _ (Cl.step_lk gl ga ha hs P σ sp w K.at_ (Cl.OkP.num ho hm) i)
theorem Alone_flat (n m : Nat) (ho : OkK p σ sp n m) (hm : m ≤ 100000) (i : Int) : Calls Tryz.prog 51 #[.pointer (some ⟨gf, 0, none⟩), .int .i64 i] w fun e w' => e = .returned (.bool (doK p σ sp 3 i).1) ∧ FLAt w' gf gl ga ha hs p (doK p σ sp 3 i).2.1 (doK p σ sp 3 i).2.2 ∧ Mod [ga, ha, hs] w w' := by
  suffices h : Calls Tryz.prog 51 #[.pointer (some ⟨gf, 0, none⟩), .int .i64 i] w fun e w' => e = .returned (.bool (doK p σ sp 3 i).1) ∧ (p.At w' gl ga ha hs (doK p σ sp 3 i).2.1 (doK p σ sp 3 i).2.2 ∧ Mod [ga, ha, hs] w w') from
    h.mono fun e w' ⟨h1, h2, h3⟩ => ⟨h1, K.acts h2 h3, h3⟩
  cases p with
  | tas P => exact Alone_gen gf 1 (by decide) _ _ _ _ w c1_Alone (m1_Alone gl) K.fb i _ _ ((lone_alone gl ga ha hs P σ sp w K.at_ i _ rfl).mono fun e w' ⟨a, b⟩ => ⟨a, Ta.LkAt.same K.at_ b, Mod.of_below b⟩)
  | tic P => exact Alone_gen gf 2 (by decide) _ _ _ _ w c2_Alone (m2_Alone gl) K.fb i _ _ ((Tk.alone_lk gl ga ha hs P σ sp w K.at_ (Tk.OkP.num ho hm) i).mono fun e w' ⟨a, b, c⟩ => ⟨a, b, c.sub (by simp)⟩)
  | par P => exact Alone_gen gf 3 (by decide) _ _ _ _ w c3_Alone (m3_Alone gl) K.fb i _ _ ((Pt.alone_lk gl ga ha hs P σ sp w K.at_ (Pt.OkP.num ho hm).2.1 (Pt.OkP.num ho hm).2.2.1 i).mono fun e w' ⟨a, b, c⟩ => ⟨a, b, c.sub (by simp)⟩)
  | mcs P => exact Alone_gen gf 4 (by decide) _ _ _ _ w c4_Alone (m4_Alone gl) K.fb i _ _ ((Mc.alone_lk gl ga ha hs P σ sp w K.at_ (Mc.OkP.num ho hm) i).mono fun e w' ⟨a, b, c⟩ => ⟨a, b, c.sub (by simp)⟩)
  | clh P => exact Alone_gen gf 5 (by decide) _ _ _ _ w c5_Alone (m5_Alone gl) K.fb i _ _ ((Cl.alone_lk gl ga ha hs P σ sp w K.at_ (Cl.OkP.num ho hm) i).mono fun e w' ⟨a, b, c⟩ => ⟨a, b, c.sub (by simp)⟩)
theorem Slots_flat : Calls Tryz.prog 26 #[.pointer (some ⟨gf, 0, none⟩)] w fun e w' => e = .returned (.int .i64 (sp.length : Int)) ∧ w' = w := by
  cases p with
  | tas P => exact Slots_gen gf 1 (by decide) _ _ _ _ w c1_Slots (m1_Slots gl) K.fb _ (Ta.slots_lk gl ga ha hs P σ sp w K.at_)
  | tic P => exact Slots_gen gf 2 (by decide) _ _ _ _ w c2_Slots (m2_Slots gl) K.fb _ (Tk.LSlots_lk gl ga ha hs P σ sp w K.at_)
  | par P => exact Slots_gen gf 3 (by decide) _ _ _ _ w c3_Slots (m3_Slots gl) K.fb _ (Pt.slots_lk gl ga ha hs P σ sp w K.at_)
  | mcs P => exact Slots_gen gf 4 (by decide) _ _ _ _ w c4_Slots (m4_Slots gl) K.fb _ (Mc.slots_lk gl ga ha hs P σ sp w K.at_)
  | clh P => exact Slots_gen gf 5 (by decide) _ _ _ _ w c5_Slots (m5_Slots gl) K.fb _ (Cl.slots_lk gl ga ha hs P σ sp w K.at_)
theorem Spot_flat (i : Int) : Calls Tryz.prog 24 #[.pointer (some ⟨gf, 0, none⟩), .int .i64 i] w fun e w' => e = .returned (.agg #[.int .i64 (spOf sp i).pc, .int .i64 (spOf sp i).a, .int .i64 (spOf sp i).b, .int .i64 (spOf sp i).c]) ∧ Below w.heap.size w w' := by
  cases p with
  | tas P => exact Spot_gen gf 1 (by decide) _ _ _ _ w c1_Spot (m1_Spot gl) K.fb i _ (fun W hW => Ta.Spot_lk gl ga ha hs P σ sp W (Ta.LkAt.same K.at_ hW) i)
  | tic P => exact Spot_gen gf 2 (by decide) _ _ _ _ w c2_Spot (m2_Spot gl) K.fb i _ (fun W hW => Tk.LSpot_lk gl ga ha hs P σ sp W (Tk.LkAt.same K.at_ hW) i)
  | par P => exact Spot_gen gf 3 (by decide) _ _ _ _ w c3_Spot (m3_Spot gl) K.fb i _ (fun W hW => Pt.Spot_lk gl ga ha hs P σ sp W (Pt.LkAt.same K.at_ hW) i)
  | mcs P => exact Spot_gen gf 4 (by decide) _ _ _ _ w c4_Spot (m4_Spot gl) K.fb i _ (fun W hW => Mc.Spot_lk gl ga ha hs P σ sp W (Mc.LkAt.same K.at_ hW) i)
  | clh P => exact Spot_gen gf 5 (by decide) _ _ _ _ w c5_Spot (m5_Spot gl) K.fb i _ (fun W hW => Cl.Spot_lk gl ga ha hs P σ sp W (Cl.LkAt.same K.at_ hW) i)
end
end Go.Proofs.YthffhhgaeolpgaaGreat.Fl

/- Package flat: New, of all kinds. -/
namespace Go.Proofs.YthffhhgaeolpgaaGreat.Fl
open Go.RowKit Go.Proofs.YthffhhgaeolpgaaGreat.Ara Go.Proofs.YthffhhgaeolpgaaGreat.Lok

set_option maxRecDepth 100000 in
theorem new_k1 (ga ha : Nat) (σ σ1 : Ar) (w : World) (H : ArAt w ga ha σ) (hh : ha < w.heap.size) (n : Nat) (n1 : 1 ≤ n) (n2 : n ≤ 32) (par : Int) (m1 : 1 ≤ par) (m2 : par ≤ 1024) (next : Int) (ht : σ.take 1 = ((next, 0), σ1)) :
    Calls Tryz.prog 12 #[.pointer (some ⟨ga, 0, none⟩), .int .i64 1, .int .i64 (n : Int), .int .i64 par] w fun e w' => ∃ gf gl hs, e = .returned (.tuple #[.pointer (some ⟨gf, 0, none⟩), .int .i64 0]) ∧ FlB w' gf 1 101 (.agg #[.pointer (some ⟨gl, 0, none⟩)]) ∧ Ta.LkAt w' gl ga ha hs ⟨next, par⟩ σ1 (Ta.zeroS n) ∧ (w.heap.size ≤ gf ∧ w.heap.size ≤ gl ∧ w.heap.size ≤ hs ∧ gf ≠ hs) ∧ Mod [ga, ha] w w' := by
  have HN := Lib.hid (Ta.new_lk ga ha σ σ1 w H hh n n1 n2 par m1 m2 next ht)
  clear H ht
  go_enter Tryz.func12, Tryz.ntmps12
  go_wp2_with fail
  refine HN.out.mono ?_
  rintro e w2 ⟨gl, hs, rfl, hk, hgl, hhs, hm⟩
  have hbn := below_new w2 (.cells #[.int .i64 1, .iface 101 (.agg #[.pointer (some ⟨gl, 0, none⟩)])] 115)
  have HB := Lib.hid (blk_new w2 (.cells #[.int .i64 1, .iface 101 (.agg #[.pointer (some ⟨gl, 0, none⟩)])] 115))
  have hz := hm.size
  have hlt := hk.2.1.lt
  have HK := Lib.hid (hk.same hbn)
  have hmm := hm.alloc (.cells #[.int .i64 1, .iface 101 (.agg #[.pointer (some ⟨gl, 0, none⟩)])] 115)
  clear hk hm hbn
  go_wp2_with fail
  go_ret2
  exact ⟨w2.heap.size, gl, hs, rfl, HB.out, HK.out, by omega, hmm⟩
set_option maxRecDepth 100000 in
theorem new_k2 (ga ha : Nat) (σ σ1 : Ar) (w : World) (H : ArAt w ga ha σ) (hh : ha < w.heap.size) (n : Nat) (n1 : 1 ≤ n) (n2 : n ≤ 32) (par : Int) (next : Int) (ht : σ.take 2 = ((next, 0), σ1)) :
    Calls Tryz.prog 12 #[.pointer (some ⟨ga, 0, none⟩), .int .i64 2, .int .i64 (n : Int), .int .i64 par] w fun e w' => ∃ gf gl hs, e = .returned (.tuple #[.pointer (some ⟨gf, 0, none⟩), .int .i64 0]) ∧ FlB w' gf 2 102 (.pointer (some ⟨gl, 0, none⟩)) ∧ Tk.LkAt w' gl ga ha hs ⟨next⟩ σ1 (Ta.zeroS n) ∧ (w.heap.size ≤ gf ∧ w.heap.size ≤ gl ∧ w.heap.size ≤ hs ∧ gf ≠ hs) ∧ Mod [ga, ha] w w' := by
  have HN := Lib.hid (Tk.new_lk ga ha σ σ1 w H hh n n1 n2 next ht)
  clear H ht
  go_enter Tryz.func12, Tryz.ntmps12
  go_wp2_with fail
  refine HN.out.mono ?_
  rintro e w2 ⟨gl, hs, rfl, hk, hgl, hhs, hm⟩
  have hbn := below_new w2 (.cells #[.int .i64 2, .iface 102 (.pointer (some ⟨gl, 0, none⟩))] 115)
  have HB := Lib.hid (blk_new w2 (.cells #[.int .i64 2, .iface 102 (.pointer (some ⟨gl, 0, none⟩))] 115))
  have hz := hm.size
  have hlt := hk.2.1.lt
  have HK := Lib.hid (hk.same hbn)
  have hmm := hm.alloc (.cells #[.int .i64 2, .iface 102 (.pointer (some ⟨gl, 0, none⟩))] 115)
  clear hk hm hbn
  go_wp2_with fail
  go_ret2
  exact ⟨w2.heap.size, gl, hs, rfl, HB.out, HK.out, by omega, hmm⟩
set_option maxRecDepth 100000 in
theorem new_k3 (ga ha : Nat) (σ σ1 : Ar) (w : World) (H : ArAt w ga ha σ) (hh : ha < w.heap.size) (n : Nat) (n1 : 1 ≤ n) (n2 : n ≤ 32) (par : Int) (p1 : 1 ≤ par) (p2 : par ≤ 32) (next : Int) (x1 : 1 ≤ next) (x2 : next ≤ 4096) (ht : σ.take (1 + par) = ((next, 0), σ1)) (ho : σ1.ops ≤ 1000000) :
    Calls Tryz.prog 12 #[.pointer (some ⟨ga, 0, none⟩), .int .i64 3, .int .i64 (n : Int), .int .i64 par] w fun e w' => ∃ gf gl hs, e = .returned (.tuple #[.pointer (some ⟨gf, 0, none⟩), .int .i64 0]) ∧ FlB w' gf 3 105 (.pointer (some ⟨gl, 0, none⟩)) ∧ Pt.LkAt w' gl ga ha hs ⟨next, par⟩ (σ1.op 2 (Pt.place ⟨next, par⟩ 0) true 1) (Pt.zeroS n) ∧ (w.heap.size ≤ gf ∧ w.heap.size ≤ gl ∧ w.heap.size ≤ hs ∧ gf ≠ hs) ∧ Mod [ga, ha] w w' := by
  have HN := Lib.hid (Pt.new_lk ga ha σ σ1 w H hh n n1 n2 par next p1 p2 x1 x2 ht ho)
  clear H ht
  go_enter Tryz.func12, Tryz.ntmps12
  go_wp2_with fail
  refine HN.out.mono ?_
  rintro e w2 ⟨gl, hs, rfl, hk, hgl, hhs, hm⟩
  have hbn := below_new w2 (.cells #[.int .i64 3, .iface 105 (.pointer (some ⟨gl, 0, none⟩))] 115)
  have HB := Lib.hid (blk_new w2 (.cells #[.int .i64 3, .iface 105 (.pointer (some ⟨gl, 0, none⟩))] 115))
  have hz := hm.size
  have hlt := hk.2.1.lt
  have HK := Lib.hid (hk.same hbn)
  have hmm := hm.alloc (.cells #[.int .i64 3, .iface 105 (.pointer (some ⟨gl, 0, none⟩))] 115)
  clear hk hm hbn
  go_wp2_with fail
  go_ret2
  exact ⟨w2.heap.size, gl, hs, rfl, HB.out, HK.out, by omega, hmm⟩
set_option maxRecDepth 100000 in
theorem new_k4 (ga ha : Nat) (σ σ1 : Ar) (w : World) (H : ArAt w ga ha σ) (hh : ha < w.heap.size) (n : Nat) (n1 : 1 ≤ n) (n2 : n ≤ 32) (par : Int) (next : Int) (x1 : 1 ≤ next) (x2 : next ≤ 4096) (ht : σ.take (1 + 2 * (n : Int)) = ((next, 0), σ1)) (ho : σ1.ops ≤ 1000000) :
    Calls Tryz.prog 12 #[.pointer (some ⟨ga, 0, none⟩), .int .i64 4, .int .i64 (n : Int), .int .i64 par] w fun e w' => ∃ gf gl hs, e = .returned (.tuple #[.pointer (some ⟨gf, 0, none⟩), .int .i64 0]) ∧ FlB w' gf 4 108 (.pointer (some ⟨gl, 0, none⟩)) ∧ Mc.LkAt w' gl ga ha hs ⟨next⟩ σ1 (Mc.zeroS n) ∧ (w.heap.size ≤ gf ∧ w.heap.size ≤ gl ∧ w.heap.size ≤ hs ∧ gf ≠ hs) ∧ Mod [ga, ha] w w' := by
  have HN := Lib.hid (Mc.new_lk ga ha σ σ1 w H hh n n1 n2 next x1 x2 ht ho)
  clear H ht
  go_enter Tryz.func12, Tryz.ntmps12
  go_wp2_with fail
  refine HN.out.mono ?_
  rintro e w2 ⟨gl, hs, rfl, hk, hgl, hhs, hm⟩
  have hbn := below_new w2 (.cells #[.int .i64 4, .iface 108 (.pointer (some ⟨gl, 0, none⟩))] 115)
  have HB := Lib.hid (blk_new w2 (.cells #[.int .i64 4, .iface 108 (.pointer (some ⟨gl, 0, none⟩))] 115))
  have hz := hm.size
  have hlt := hk.2.1.lt
  have HK := Lib.hid (hk.same hbn)
  have hmm := hm.alloc (.cells #[.int .i64 4, .iface 108 (.pointer (some ⟨gl, 0, none⟩))] 115)
  clear hk hm hbn
  go_wp2_with fail
  go_ret2
  exact ⟨w2.heap.size, gl, hs, rfl, HB.out, HK.out, by omega, hmm⟩
set_option maxRecDepth 100000 in
theorem new_k5 (ga ha : Nat) (σ σ1 : Ar) (w : World) (H : ArAt w ga ha σ) (hh : ha < w.heap.size) (n : Nat) (n1 : 1 ≤ n) (n2 : n ≤ 32) (par : Int) (next : Int) (x1 : 1 ≤ next) (x2 : next ≤ 4096) (ht : σ.take ((n : Int) + 2) = ((next, 0), σ1)) (ho : σ1.ops ≤ 1000000) :
    Calls Tryz.prog 12 #[.pointer (some ⟨ga, 0, none⟩), .int .i64 5, .int .i64 (n : Int), .int .i64 par] w fun e w' => ∃ gf gl hs, e = .returned (.tuple #[.pointer (some ⟨gf, 0, none⟩), .int .i64 0]) ∧ FlB w' gf 5 111 (.pointer (some ⟨gl, 0, none⟩)) ∧ Cl.LkAt w' gl ga ha hs ⟨next⟩ (σ1.op 2 next true ((n : Int) + 1)) (Cl.first0 n) ∧ (w.heap.size ≤ gf ∧ w.heap.size ≤ gl ∧ w.heap.size ≤ hs ∧ gf ≠ hs) ∧ Mod [ga, ha] w w' := by
  have HN := Lib.hid (Cl.new_lk ga ha σ σ1 w H hh n n1 n2 next x1 x2 ht ho)
  clear H ht
  go_enter Tryz.func12, Tryz.ntmps12
  go_wp2_with fail
  refine HN.out.mono ?_
  rintro e w2 ⟨gl, hs, rfl, hk, hgl, hhs, hm⟩
  have hbn := below_new w2 (.cells #[.int .i64 5, .iface 111 (.pointer (some ⟨gl, 0, none⟩))] 115)
  have HB := Lib.hid (blk_new w2 (.cells #[.int .i64 5, .iface 111 (.pointer (some ⟨gl, 0, none⟩))] 115))
  have hz := hm.size
  have hlt := hk.2.1.lt
  have HK := Lib.hid (hk.same hbn)
  have hmm := hm.alloc (.cells #[.int .i64 5, .iface 111 (.pointer (some ⟨gl, 0, none⟩))] 115)
  clear hk hm hbn
  go_wp2_with fail
  go_ret2
  exact ⟨w2.heap.size, gl, hs, rfl, HB.out, HK.out, by omega, hmm⟩
def sizeK (kind : Int) (n : Nat) (par : Int) : Nat := if kind = 1 then 1 else if kind = 2 then 2 else if kind = 3 then 1 + par.toNat else if kind = 4 then 1 + 2 * n else n + 2
def mayK (kind : Int) (n : Nat) (par : Int) : Prop := (1 ≤ kind ∧ kind ≤ 5) ∧ (1 ≤ n ∧ n ≤ 32) ∧ (kind = 1 → 1 ≤ par ∧ par ≤ 1024) ∧ (kind = 3 → 1 ≤ par ∧ par ≤ 32)
def pkK (kind par : Int) (a : Nat) : PK := if kind = 1 then .tas ⟨a, par⟩ else if kind = 2 then .tic ⟨a⟩ else if kind = 3 then .par ⟨a, par⟩ else if kind = 4 then .mcs ⟨a⟩ else .clh ⟨a⟩
def firstK (kind : Int) (n : Nat) (par : Int) (a : Nat) (σ1 : Ar) : Ar × List Sp :=
  if kind = 3 then (σ1.op 2 (Pt.place ⟨a, par⟩ 0) true 1, Pt.zeroS n) else if kind = 5 then (σ1.op 2 (a : Int) true ((n : Int) + 1), Cl.first0 n) else (σ1, Ta.zeroS n)
theorem take_ok {σ : Ar} {m : Nat} (h : σ.t + m ≤ σ.ws.length) : σ.take (m : Int) = (((σ.t : Int) + 1, 0), { σ with t := σ.t + m }) := by
  unfold Ar.take
  rw [if_neg (by omega), if_neg (by omega), Int.toNat_natCast]
theorem zr_take {σ : Ar} {m : Nat} (h : σ.t + m ≤ σ.ws.length) (hz : ∀ k, σ.t ≤ k → σ.ws.getD k 0 = 0) : Zr { σ with t := σ.t + m } (σ.t + 1) m := by
  refine ⟨h, by omega, by show σ.t + 1 + m ≤ σ.t + m + 1; omega, fun q h1 h2 => ?_⟩
  unfold Ar.get
  split
  · exact hz _ (by omega)
  · rfl
def NewAft (kind : Int) (n : Nat) (par : Int) (ga ha : Nat) (σ : Ar) (w : World) (e : Ending) (w' : World) : Prop :=
  ∃ gf gl hs, e = .returned (.tuple #[.pointer (some ⟨gf, 0, none⟩), .int .i64 0]) ∧ FLAt w' gf gl ga ha hs (pkK kind par (σ.t + 1)) (firstK kind n par (σ.t + 1) { σ with t := σ.t + sizeK kind n par }).1 (firstK kind n par (σ.t + 1) { σ with t := σ.t + sizeK kind n par }).2 ∧ (w.heap.size ≤ gf ∧ w.heap.size ≤ gl ∧ w.heap.size ≤ hs) ∧ Mod [ga, ha] w w'
theorem new_flat (kind : Int) (n : Nat) (par : Int) (hM : mayK kind n par) (ga ha : Nat) (σ : Ar) (w : World) (H : ArAt w ga ha σ) (hh : ha < w.heap.size) (hr : σ.t + sizeK kind n par ≤ σ.ws.length) (hw : σ.ws.length ≤ 4096) (ho : σ.ops ≤ 1000000) :
    Calls Tryz.prog 12 #[.pointer (some ⟨ga, 0, none⟩), .int .i64 kind, .int .i64 (n : Int), .int .i64 par] w (NewAft kind n par ga ha σ w) := by
  obtain ⟨⟨k1, k5⟩, ⟨n1, n2⟩, ha1, ha3⟩ := hM
  have hga := H.lt
  have htk := take_ok hr
  rcases (show kind = 1 ∨ kind = 2 ∨ kind = 3 ∨ kind = 4 ∨ kind = 5 by omega) with rfl | rfl | rfl | rfl | rfl
  · obtain ⟨m1, m2⟩ := ha1 rfl
    refine (new_k1 ga ha σ _ w H hh n n1 n2 par m1 m2 _ htk).mono ?_
    rintro e w' ⟨gf, gl, hs, rfl, hf, hk, ⟨b1, b2, b3, b4⟩, hm⟩
    exact ⟨gf, gl, hs, rfl, ⟨hf, hk, by omega, by omega, b4⟩, ⟨b1, b2, b3⟩, hm⟩
  · refine (new_k2 ga ha σ _ w H hh n n1 n2 par _ htk).mono ?_
    rintro e w' ⟨gf, gl, hs, rfl, hf, hk, ⟨b1, b2, b3, b4⟩, hm⟩
    exact ⟨gf, gl, hs, rfl, ⟨hf, hk, by omega, by omega, b4⟩, ⟨b1, b2, b3⟩, hm⟩
  · obtain ⟨p1, p2⟩ := ha3 rfl
    have hsz : sizeK 3 n par = 1 + par.toNat := rfl
    rw [hsz] at hr htk
    rw [show ((1 + par.toNat : Nat) : Int) = 1 + par by omega] at htk
    refine (new_k3 ga ha σ _ w H hh n n1 n2 par p1 p2 _ (by omega) (by omega) htk ho).mono ?_
    rintro e w' ⟨gf, gl, hs, rfl, hf, hk, ⟨b1, b2, b3, b4⟩, hm⟩
    exact ⟨gf, gl, hs, rfl, ⟨hf, hk, by omega, by omega, b4⟩, ⟨b1, b2, b3⟩, hm⟩
  · have hsz : sizeK 4 n par = 1 + 2 * n := rfl
    rw [hsz] at hr htk
    rw [show ((1 + 2 * n : Nat) : Int) = 1 + 2 * (n : Int) by omega] at htk
    refine (new_k4 ga ha σ _ w H hh n n1 n2 par _ (by omega) (by omega) htk ho).mono ?_
    rintro e w' ⟨gf, gl, hs, rfl, hf, hk, ⟨b1, b2, b3, b4⟩, hm⟩
    exact ⟨gf, gl, hs, rfl, ⟨hf, hk, by omega, by omega, b4⟩, ⟨b1, b2, b3⟩, hm⟩
  · have hsz : sizeK 5 n par = n + 2 := rfl
    rw [hsz] at hr htk
    rw [show ((n + 2 : Nat) : Int) = (n : Int) + 2 by omega] at htk
    refine (new_k5 ga ha σ _ w H hh n n1 n2 par _ (by omega) (by omega) htk ho).mono ?_
    rintro e w' ⟨gf, gl, hs, rfl, hf, hk, ⟨b1, b2, b3, b4⟩, hm⟩
    exact ⟨gf, gl, hs, rfl, ⟨hf, hk, by omega, by omega, b4⟩, ⟨b1, b2, b3⟩, hm⟩
theorem ok_flat (kind : Int) (n : Nat) (par : Int) (hM : mayK kind n par) (σ : Ar) (hz : ∀ k, σ.t ≤ k → σ.ws.getD k 0 = 0) (hr : σ.t + sizeK kind n par ≤ σ.ws.length) (hw : σ.ws.length ≤ 4096) (m : Nat) (ho : σ.ops ≤ m) :
    OkK (pkK kind par (σ.t + 1)) (firstK kind n par (σ.t + 1) { σ with t := σ.t + sizeK kind n par }).1 (firstK kind n par (σ.t + 1) { σ with t := σ.t + sizeK kind n par }).2 n m := by
  obtain ⟨⟨k1, k5⟩, ⟨n1, n2⟩, ha1, ha3⟩ := hM
  have hzr := zr_take hr hz
  rcases (show kind = 1 ∨ kind = 2 ∨ kind = 3 ∨ kind = 4 ∨ kind = 5 by omega) with rfl | rfl | rfl | rfl | rfl
  · obtain ⟨m1, m2⟩ := ha1 rfl
    exact Ta.ok_st hzr par m1 m2 n m (by show σ.ops ≤ _; omega)
  · exact Tk.ok_st hzr n m (by show σ.ops ≤ _; omega) (by have : sizeK 2 n par = 2 := rfl; omega)
  · obtain ⟨p1, p2⟩ := ha3 rfl
    obtain ⟨p, rfl⟩ := Int.eq_ofNat_of_zero_le (show 0 ≤ par by omega)
    have h9 : sizeK 3 n (p : Int) = 1 + p := rfl
    rw [h9] at hr
    exact Pt.ok_st (p := p) hzr (by omega) (by omega) n m ho (by omega)
  · exact Mc.ok_st hzr n2 m (by show σ.ops ≤ _; omega) (by have : sizeK 4 n par = 1 + 2 * n := rfl; omega)
  · exact Cl.ok_st hzr n2 m ho (by have : sizeK 5 n par = n + 2 := rfl; omega)
end Go.Proofs.YthffhhgaeolpgaaGreat.Fl

/- The document's lock of layer 20, in memory: what its methods do. -/
namespace Go.Proofs.YthffhhgaeolpgaaGreat.Fl
open Go.RowKit Go.Proofs.YthffhhgaeolpgaaGreat.Ara Go.Proofs.YthffhhgaeolpgaaGreat.Lok

def rcs (gL : Nat) : PK → Array Value
  | .tas _ => #[.int .i64 1, .pointer (some ⟨gL, 0, none⟩), .pointer none, .pointer none, .pointer none, .pointer none]
  | .tic _ => #[.int .i64 2, .pointer none, .pointer (some ⟨gL, 0, none⟩), .pointer none, .pointer none, .pointer none]
  | .par _ => #[.int .i64 3, .pointer none, .pointer none, .pointer (some ⟨gL, 0, none⟩), .pointer none, .pointer none]
  | .mcs _ => #[.int .i64 4, .pointer none, .pointer none, .pointer none, .pointer (some ⟨gL, 0, none⟩), .pointer none]
  | .clh _ => #[.int .i64 5, .pointer none, .pointer none, .pointer none, .pointer none, .pointer (some ⟨gL, 0, none⟩)]
def PK.RAt (p : PK) (W : World) (gL gr base hs : Nat) (ρ : Rf) (sp : List Sp) : Prop :=
  match p with
  | .tas P => Ta.RLk W gL gr base hs P ρ sp
  | .tic P => Tk.RLk W gL gr base hs P ρ sp
  | .par P => Pt.RLk W gL gr base hs P ρ sp
  | .mcs P => Mc.RLk W gL gr base hs P ρ sp
  | .clh P => Cl.RLk W gL gr base hs P ρ sp
theorem PK.RAt.mod {p : PK} {base : Nat} {S : List Nat} {W W' : World} {gL gr hs : Nat} {ρ : Rf} {sp : List Sp} (k : p.RAt W gL gr base hs ρ sp) (hm : Mod S W W') (h : ∀ x ∈ S, x ≠ gr ∧ ¬ IntRow W x) (h1 : gL ∉ S) (h2 : hs ∉ S) : p.RAt W' gL gr base hs ρ sp := by
  cases p with
  | tas P => exact Ta.RLk.mod k hm h h1 h2
  | tic P => exact Tk.RLk.mod k hm h h1 h2
  | par P => exact Pt.RLk.mod k hm h h1 h2
  | mcs P => exact Mc.RLk.mod k hm h h1 h2
  | clh P => exact Cl.RLk.mod k hm h h1 h2
theorem PK.RAt.facts {p : PK} {base : Nat} {W : World} {gL gr hs : Nat} {ρ : Rf} {sp : List Sp} (k : p.RAt W gL gr base hs ρ sp) : RfAt W gr base ρ ∧ SpAt W hs sp ∧ sp.length ≤ 32 ∧ gL < W.heap.size ∧ gL ≠ gr ∧ gL ≠ hs ∧ hs ≠ gr := by
  cases p with
  | tas P => obtain ⟨k1, k2, k3, ⟨c, k4⟩, k5⟩ := k; exact ⟨k1, k2, k3, lt_of_blk k4, k5⟩
  | tic P => obtain ⟨k1, k2, k3, ⟨c, k4⟩, k5⟩ := k; exact ⟨k1, k2, k3, lt_of_blk k4, k5⟩
  | par P => obtain ⟨k1, k2, k3, ⟨c, k4⟩, k5⟩ := k; exact ⟨k1, k2, k3, lt_of_blk k4, k5⟩
  | mcs P => obtain ⟨k1, k2, k3, ⟨c, k4⟩, k5⟩ := k; exact ⟨k1, k2, k3, lt_of_blk k4, k5⟩
  | clh P => obtain ⟨k1, k2, k3, ⟨c, k4⟩, k5⟩ := k; exact ⟨k1, k2, k3, lt_of_blk k4, k5⟩
structure RFL (W : World) (gK gL gr base hs : Nat) (p : PK) (ρ : Rf) (sp : List Sp) : Prop where
  fb : W.heap[gK]? = some (.cells (rcs gL p) 122 (0, 0))
  at_ : p.RAt W gL gr base hs ρ sp
  n1 : gK ≠ gr
  n2 : gK ≠ hs
theorem RFL.mod {base : Nat} {S : List Nat} {W W' : World} {gK gL gr hs : Nat} {p : PK} {ρ : Rf} {sp : List Sp} (k : RFL W gK gL gr base hs p ρ sp) (hm : Mod S W W') (h : ∀ x ∈ S, x ≠ gr ∧ ¬ IntRow W x) (h0 : gK ∉ S) (h1 : gL ∉ S) (h2 : hs ∉ S) : RFL W' gK gL gr base hs p ρ sp :=
  ⟨hm.blk k.fb h0, k.at_.mod hm h h1 h2, k.n1, k.n2⟩
theorem RFL.same {base : Nat} {W W' : World} {gK gL gr hs : Nat} {p : PK} {ρ : Rf} {sp : List Sp} (k : RFL W gK gL gr base hs p ρ sp) (hb : Below W.heap.size W W') : RFL W' gK gL gr base hs p ρ sp := k.mod (S := []) (Mod.of_below hb) (by simp) (by simp) (by simp) (by simp)
theorem RFL.drewN {base : Nat} {W : World} {gK gL gr hs : Nat} {p : PK} {ρ : Rf} {sp : List Sp} (k : RFL W gK gL gr base hs p ρ sp) (n : Nat) : RFL (W.drewN n) gK gL gr base hs p ρ sp := k.mod (S := []) ((Mod.refl _ _).drewN n) (by simp) (by simp) (by simp) (by simp)
theorem RFL.acts {base : Nat} {W W' : World} {gK gL gr hs : Nat} {p : PK} {ρ ρ' : Rf} {sp sp' : List Sp} (k : RFL W gK gL gr base hs p ρ sp) (h : p.RAt W' gL gr base hs ρ' sp') (hm : RMs base [gr, hs] W W') : RFL W' gK gL gr base hs p ρ' sp' := by
  have h1 := k.n1
  have h2 := k.n2
  exact ⟨(hm.blk k.fb (by decide) (by simp; omega)).trans k.fb, h, h1, h2⟩
set_option maxRecDepth 100000 in
theorem rAsk_1 (gK gL : Nat) (w : World) (h0 : w.cell? ⟨gK, 0, none⟩ = some (.int .i64 1)) (h1 : w.cell? ⟨gK, 1, none⟩ = some (.pointer (some ⟨gL, 0, none⟩))) (i : Int) (b : Bool) (R : World → Prop) (HC : Calls Tryz.prog 93 #[.pointer (some ⟨gL, 0, none⟩), .int .i64 i] w fun e w' => e = .returned (.bool b) ∧ R w') : Calls Tryz.prog 65 #[.pointer (some ⟨gK, 0, none⟩), .int .i64 i] w fun e w' => e = .returned (.bool b) ∧ R w' := by
  replace HC := Lib.hid HC
  go_enter Tryz.func65, Tryz.ntmps65
  go_wp2_with fail
  refine HC.out.mono ?_
  rintro e w2 ⟨rfl, h2⟩
  replace h2 := Lib.hid h2
  go_wp2_with fail
  go_ret
  exact ⟨rfl, h2.out⟩
set_option maxRecDepth 100000 in
theorem rAsk_2 (gK gL : Nat) (w : World) (h0 : w.cell? ⟨gK, 0, none⟩ = some (.int .i64 2)) (h1 : w.cell? ⟨gK, 2, none⟩ = some (.pointer (some ⟨gL, 0, none⟩))) (i : Int) (b : Bool) (R : World → Prop) (HC : Calls Tryz.prog 94 #[.pointer (some ⟨gL, 0, none⟩), .int .i64 i] w fun e w' => e = .returned (.bool b) ∧ R w') : Calls Tryz.prog 65 #[.pointer (some ⟨gK, 0, none⟩), .int .i64 i] w fun e w' => e = .returned (.bool b) ∧ R w' := by
  replace HC := Lib.hid HC
  go_enter Tryz.func65, Tryz.ntmps65
  go_wp2_with fail
  refine HC.out.mono ?_
  rintro e w2 ⟨rfl, h2⟩
  replace h2 := Lib.hid h2
  go_wp2_with fail
  go_ret
  exact ⟨rfl, h2.out⟩
set_option maxRecDepth 100000 in
theorem rAsk_3 (gK gL : Nat) (w : World) (h0 : w.cell? ⟨gK, 0, none⟩ = some (.int .i64 3)) (h1 : w.cell? ⟨gK, 3, none⟩ = some (.pointer (some ⟨gL, 0, none⟩))) (i : Int) (b : Bool) (R : World → Prop) (HC : Calls Tryz.prog 95 #[.pointer (some ⟨gL, 0, none⟩), .int .i64 i] w fun e w' => e = .returned (.bool b) ∧ R w') : Calls Tryz.prog 65 #[.pointer (some ⟨gK, 0, none⟩), .int .i64 i] w fun e w' => e = .returned (.bool b) ∧ R w' := by
  replace HC := Lib.hid HC
  go_enter Tryz.func65, Tryz.ntmps65
  go_wp2_with fail
  refine HC.out.mono ?_
  rintro e w2 ⟨rfl, h2⟩
  replace h2 := Lib.hid h2
  go_wp2_with fail
  go_ret
  exact ⟨rfl, h2.out⟩
set_option maxRecDepth 100000 in
theorem rAsk_4 (gK gL : Nat) (w : World) (h0 : w.cell? ⟨gK, 0, none⟩ = some (.int .i64 4)) (h1 : w.cell? ⟨gK, 4, none⟩ = some (.pointer (some ⟨gL, 0, none⟩))) (i : Int) (b : Bool) (R : World → Prop) (HC : Calls Tryz.prog 96 #[.pointer (some ⟨gL, 0, none⟩), .int .i64 i] w fun e w' => e = .returned (.bool b) ∧ R w') : Calls Tryz.prog 65 #[.pointer (some ⟨gK, 0, none⟩), .int .i64 i] w fun e w' => e = .returned (.bool b) ∧ R w' := by
  replace HC := Lib.hid HC
  go_enter Tryz.func65, Tryz.ntmps65
  go_wp2_with fail
  refine HC.out.mono ?_
  rintro e w2 ⟨rfl, h2⟩
  replace h2 := Lib.hid h2
  go_wp2_with fail
  go_ret
  exact ⟨rfl, h2.out⟩
set_option maxRecDepth 100000 in
theorem rAsk_5 (gK gL : Nat) (w : World) (h0 : w.cell? ⟨gK, 0, none⟩ = some (.int .i64 5)) (h1 : w.cell? ⟨gK, 5, none⟩ = some (.pointer (some ⟨gL, 0, none⟩))) (i : Int) (b : Bool) (R : World → Prop) (HC : Calls Tryz.prog 97 #[.pointer (some ⟨gL, 0, none⟩), .int .i64 i] w fun e w' => e = .returned (.bool b) ∧ R w') : Calls Tryz.prog 65 #[.pointer (some ⟨gK, 0, none⟩), .int .i64 i] w fun e w' => e = .returned (.bool b) ∧ R w' := by
  replace HC := Lib.hid HC
  go_enter Tryz.func65, Tryz.ntmps65
  go_wp2_with fail
  refine HC.out.mono ?_
  rintro e w2 ⟨rfl, h2⟩
  replace h2 := Lib.hid h2
  go_wp2_with fail
  go_ret
  exact ⟨rfl, h2.out⟩
set_option maxRecDepth 100000 in
theorem rLeave_1 (gK gL : Nat) (w : World) (h0 : w.cell? ⟨gK, 0, none⟩ = some (.int .i64 1)) (h1 : w.cell? ⟨gK, 1, none⟩ = some (.pointer (some ⟨gL, 0, none⟩))) (i : Int) (b : Bool) (R : World → Prop) (HC : Calls Tryz.prog 98 #[.pointer (some ⟨gL, 0, none⟩), .int .i64 i] w fun e w' => e = .returned (.bool b) ∧ R w') : Calls Tryz.prog 66 #[.pointer (some ⟨gK, 0, none⟩), .int .i64 i] w fun e w' => e = .returned (.bool b) ∧ R w' := by
  replace HC := Lib.hid HC
  go_enter Tryz.func66, Tryz.ntmps66
  go_wp2_with fail
  refine HC.out.mono ?_
  rintro e w2 ⟨rfl, h2⟩
  replace h2 := Lib.hid h2
  go_wp2_with fail
  go_ret
  exact ⟨rfl, h2.out⟩
set_option maxRecDepth 100000 in
theorem rLeave_2 (gK gL : Nat) (w : World) (h0 : w.cell? ⟨gK, 0, none⟩ = some (.int .i64 2)) (h1 : w.cell? ⟨gK, 2, none⟩ = some (.pointer (some ⟨gL, 0, none⟩))) (i : Int) (b : Bool) (R : World → Prop) (HC : Calls Tryz.prog 99 #[.pointer (some ⟨gL, 0, none⟩), .int .i64 i] w fun e w' => e = .returned (.bool b) ∧ R w') : Calls Tryz.prog 66 #[.pointer (some ⟨gK, 0, none⟩), .int .i64 i] w fun e w' => e = .returned (.bool b) ∧ R w' := by
  replace HC := Lib.hid HC
  go_enter Tryz.func66, Tryz.ntmps66
  go_wp2_with fail
  refine HC.out.mono ?_
  rintro e w2 ⟨rfl, h2⟩
  replace h2 := Lib.hid h2
  go_wp2_with fail
  go_ret
  exact ⟨rfl, h2.out⟩
set_option maxRecDepth 100000 in
theorem rLeave_3 (gK gL : Nat) (w : World) (h0 : w.cell? ⟨gK, 0, none⟩ = some (.int .i64 3)) (h1 : w.cell? ⟨gK, 3, none⟩ = some (.pointer (some ⟨gL, 0, none⟩))) (i : Int) (b : Bool) (R : World → Prop) (HC : Calls Tryz.prog 100 #[.pointer (some ⟨gL, 0, none⟩), .int .i64 i] w fun e w' => e = .returned (.bool b) ∧ R w') : Calls Tryz.prog 66 #[.pointer (some ⟨gK, 0, none⟩), .int .i64 i] w fun e w' => e = .returned (.bool b) ∧ R w' := by
  replace HC := Lib.hid HC
  go_enter Tryz.func66, Tryz.ntmps66
  go_wp2_with fail
  refine HC.out.mono ?_
  rintro e w2 ⟨rfl, h2⟩
  replace h2 := Lib.hid h2
  go_wp2_with fail
  go_ret
  exact ⟨rfl, h2.out⟩
set_option maxRecDepth 100000 in
theorem rLeave_4 (gK gL : Nat) (w : World) (h0 : w.cell? ⟨gK, 0, none⟩ = some (.int .i64 4)) (h1 : w.cell? ⟨gK, 4, none⟩ = some (.pointer (some ⟨gL, 0, none⟩))) (i : Int) (b : Bool) (R : World → Prop) (HC : Calls Tryz.prog 101 #[.pointer (some ⟨gL, 0, none⟩), .int .i64 i] w fun e w' => e = .returned (.bool b) ∧ R w') : Calls Tryz.prog 66 #[.pointer (some ⟨gK, 0, none⟩), .int .i64 i] w fun e w' => e = .returned (.bool b) ∧ R w' := by
  replace HC := Lib.hid HC
  go_enter Tryz.func66, Tryz.ntmps66
  go_wp2_with fail
  refine HC.out.mono ?_
  rintro e w2 ⟨rfl, h2⟩
  replace h2 := Lib.hid h2
  go_wp2_with fail
  go_ret
  exact ⟨rfl, h2.out⟩
set_option maxRecDepth 100000 in
theorem rLeave_5 (gK gL : Nat) (w : World) (h0 : w.cell? ⟨gK, 0, none⟩ = some (.int .i64 5)) (h1 : w.cell? ⟨gK, 5, none⟩ = some (.pointer (some ⟨gL, 0, none⟩))) (i : Int) (b : Bool) (R : World → Prop) (HC : Calls Tryz.prog 102 #[.pointer (some ⟨gL, 0, none⟩), .int .i64 i] w fun e w' => e = .returned (.bool b) ∧ R w') : Calls Tryz.prog 66 #[.pointer (some ⟨gK, 0, none⟩), .int .i64 i] w fun e w' => e = .returned (.bool b) ∧ R w' := by
  replace HC := Lib.hid HC
  go_enter Tryz.func66, Tryz.ntmps66
  go_wp2_with fail
  refine HC.out.mono ?_
  rintro e w2 ⟨rfl, h2⟩
  replace h2 := Lib.hid h2
  go_wp2_with fail
  go_ret
  exact ⟨rfl, h2.out⟩
set_option maxRecDepth 100000 in
theorem rStep_1 (gK gL : Nat) (w : World) (h0 : w.cell? ⟨gK, 0, none⟩ = some (.int .i64 1)) (h1 : w.cell? ⟨gK, 1, none⟩ = some (.pointer (some ⟨gL, 0, none⟩))) (i : Int) (b : Bool) (R : World → Prop) (HC : Calls Tryz.prog 88 #[.pointer (some ⟨gL, 0, none⟩), .int .i64 i] w fun e w' => e = .returned (.bool b) ∧ R w') : Calls Tryz.prog 64 #[.pointer (some ⟨gK, 0, none⟩), .int .i64 i] w fun e w' => e = .returned (.bool b) ∧ R w' := by
  replace HC := Lib.hid HC
  go_enter Tryz.func64, Tryz.ntmps64
  go_wp2_with fail
  refine HC.out.mono ?_
  rintro e w2 ⟨rfl, h2⟩
  replace h2 := Lib.hid h2
  go_wp2_with fail
  go_ret
  exact ⟨rfl, h2.out⟩
set_option maxRecDepth 100000 in
theorem rStep_2 (gK gL : Nat) (w : World) (h0 : w.cell? ⟨gK, 0, none⟩ = some (.int .i64 2)) (h1 : w.cell? ⟨gK, 2, none⟩ = some (.pointer (some ⟨gL, 0, none⟩))) (i : Int) (b : Bool) (R : World → Prop) (HC : Calls Tryz.prog 89 #[.pointer (some ⟨gL, 0, none⟩), .int .i64 i] w fun e w' => e = .returned (.bool b) ∧ R w') : Calls Tryz.prog 64 #[.pointer (some ⟨gK, 0, none⟩), .int .i64 i] w fun e w' => e = .returned (.bool b) ∧ R w' := by
  replace HC := Lib.hid HC
  go_enter Tryz.func64, Tryz.ntmps64
  go_wp2_with fail
  refine HC.out.mono ?_
  rintro e w2 ⟨rfl, h2⟩
  replace h2 := Lib.hid h2
  go_wp2_with fail
  go_ret
  exact ⟨rfl, h2.out⟩
set_option maxRecDepth 100000 in
theorem rStep_3 (gK gL : Nat) (w : World) (h0 : w.cell? ⟨gK, 0, none⟩ = some (.int .i64 3)) (h1 : w.cell? ⟨gK, 3, none⟩ = some (.pointer (some ⟨gL, 0, none⟩))) (i : Int) (b : Bool) (R : World → Prop) (HC : Calls Tryz.prog 90 #[.pointer (some ⟨gL, 0, none⟩), .int .i64 i] w fun e w' => e = .returned (.bool b) ∧ R w') : Calls Tryz.prog 64 #[.pointer (some ⟨gK, 0, none⟩), .int .i64 i] w fun e w' => e = .returned (.bool b) ∧ R w' := by
  replace HC := Lib.hid HC
  go_enter Tryz.func64, Tryz.ntmps64
  go_wp2_with fail
  refine HC.out.mono ?_
  rintro e w2 ⟨rfl, h2⟩
  replace h2 := Lib.hid h2
  go_wp2_with fail
  go_ret
  exact ⟨rfl, h2.out⟩
set_option maxRecDepth 100000 in
theorem rStep_4 (gK gL : Nat) (w : World) (h0 : w.cell? ⟨gK, 0, none⟩ = some (.int .i64 4)) (h1 : w.cell? ⟨gK, 4, none⟩ = some (.pointer (some ⟨gL, 0, none⟩))) (i : Int) (b : Bool) (R : World → Prop) (HC : Calls Tryz.prog 91 #[.pointer (some ⟨gL, 0, none⟩), .int .i64 i] w fun e w' => e = .returned (.bool b) ∧ R w') : Calls Tryz.prog 64 #[.pointer (some ⟨gK, 0, none⟩), .int .i64 i] w fun e w' => e = .returned (.bool b) ∧ R w' := by
  replace HC := Lib.hid HC
  go_enter Tryz.func64, Tryz.ntmps64
  go_wp2_with fail
  refine HC.out.mono ?_
  rintro e w2 ⟨rfl, h2⟩
  replace h2 := Lib.hid h2
  go_wp2_with fail
  go_ret
  exact ⟨rfl, h2.out⟩
set_option maxRecDepth 100000 in
theorem rStep_5 (gK gL : Nat) (w : World) (h0 : w.cell? ⟨gK, 0, none⟩ = some (.int .i64 5)) (h1 : w.cell? ⟨gK, 5, none⟩ = some (.pointer (some ⟨gL, 0, none⟩))) (i : Int) (b : Bool) (R : World → Prop) (HC : Calls Tryz.prog 92 #[.pointer (some ⟨gL, 0, none⟩), .int .i64 i] w fun e w' => e = .returned (.bool b) ∧ R w') : Calls Tryz.prog 64 #[.pointer (some ⟨gK, 0, none⟩), .int .i64 i] w fun e w' => e = .returned (.bool b) ∧ R w' := by
  replace HC := Lib.hid HC
  go_enter Tryz.func64, Tryz.ntmps64
  go_wp2_with fail
  refine HC.out.mono ?_
  rintro e w2 ⟨rfl, h2⟩
  replace h2 := Lib.hid h2
  go_wp2_with fail
  go_ret
  exact ⟨rfl, h2.out⟩
set_option maxRecDepth 100000 in
theorem rAlone_2 (gK gL : Nat) (w : World) (h0 : w.cell? ⟨gK, 0, none⟩ = some (.int .i64 2)) (h1 : w.cell? ⟨gK, 2, none⟩ = some (.pointer (some ⟨gL, 0, none⟩))) (i : Int) (b : Bool) (R : World → Prop) (HC : Calls Tryz.prog 103 #[.pointer (some ⟨gL, 0, none⟩), .int .i64 i] w fun e w' => e = .returned (.bool b) ∧ R w') : Calls Tryz.prog 67 #[.pointer (some ⟨gK, 0, none⟩), .int .i64 i] w fun e w' => e = .returned (.bool b) ∧ R w' := by
  replace HC := Lib.hid HC
  go_enter Tryz.func67, Tryz.ntmps67
  go_wp2_with fail
  refine HC.out.mono ?_
  rintro e w2 ⟨rfl, h2⟩
  replace h2 := Lib.hid h2
  go_wp2_with fail
  go_ret
  exact ⟨rfl, h2.out⟩
set_option maxRecDepth 100000 in
theorem rAlone_3 (gK gL : Nat) (w : World) (h0 : w.cell? ⟨gK, 0, none⟩ = some (.int .i64 3)) (h1 : w.cell? ⟨gK, 3, none⟩ = some (.pointer (some ⟨gL, 0, none⟩))) (i : Int) (b : Bool) (R : World → Prop) (HC : Calls Tryz.prog 104 #[.pointer (some ⟨gL, 0, none⟩), .int .i64 i] w fun e w' => e = .returned (.bool b) ∧ R w') : Calls Tryz.prog 67 #[.pointer (some ⟨gK, 0, none⟩), .int .i64 i] w fun e w' => e = .returned (.bool b) ∧ R w' := by
  replace HC := Lib.hid HC
  go_enter Tryz.func67, Tryz.ntmps67
  go_wp2_with fail
  refine HC.out.mono ?_
  rintro e w2 ⟨rfl, h2⟩
  replace h2 := Lib.hid h2
  go_wp2_with fail
  go_ret
  exact ⟨rfl, h2.out⟩
set_option maxRecDepth 100000 in
theorem rAlone_4 (gK gL : Nat) (w : World) (h0 : w.cell? ⟨gK, 0, none⟩ = some (.int .i64 4)) (h1 : w.cell? ⟨gK, 4, none⟩ = some (.pointer (some ⟨gL, 0, none⟩))) (i : Int) (b : Bool) (R : World → Prop) (HC : Calls Tryz.prog 105 #[.pointer (some ⟨gL, 0, none⟩), .int .i64 i] w fun e w' => e = .returned (.bool b) ∧ R w') : Calls Tryz.prog 67 #[.pointer (some ⟨gK, 0, none⟩), .int .i64 i] w fun e w' => e = .returned (.bool b) ∧ R w' := by
  replace HC := Lib.hid HC
  go_enter Tryz.func67, Tryz.ntmps67
  go_wp2_with fail
  refine HC.out.mono ?_
  rintro e w2 ⟨rfl, h2⟩
  replace h2 := Lib.hid h2
  go_wp2_with fail
  go_ret
  exact ⟨rfl, h2.out⟩
set_option maxRecDepth 100000 in
theorem rAlone_5 (gK gL : Nat) (w : World) (h0 : w.cell? ⟨gK, 0, none⟩ = some (.int .i64 5)) (h1 : w.cell? ⟨gK, 5, none⟩ = some (.pointer (some ⟨gL, 0, none⟩))) (i : Int) (b : Bool) (R : World → Prop) (HC : Calls Tryz.prog 106 #[.pointer (some ⟨gL, 0, none⟩), .int .i64 i] w fun e w' => e = .returned (.bool b) ∧ R w') : Calls Tryz.prog 67 #[.pointer (some ⟨gK, 0, none⟩), .int .i64 i] w fun e w' => e = .returned (.bool b) ∧ R w' := by
  replace HC := Lib.hid HC
  go_enter Tryz.func67, Tryz.ntmps67
  go_wp2_with fail
  refine HC.out.mono ?_
  rintro e w2 ⟨rfl, h2⟩
  replace h2 := Lib.hid h2
  go_wp2_with fail
  go_ret
  exact ⟨rfl, h2.out⟩
set_option maxRecDepth 100000 in
theorem rSpots_1 (gK gL : Nat) (v : Value) (w : World) (h0 : w.cell? ⟨gK, 0, none⟩ = some (.int .i64 1)) (h1 : w.cell? ⟨gK, 1, none⟩ = some (.pointer (some ⟨gL, 0, none⟩))) (h2 : w.cell? ⟨gL, 3, none⟩ = some v) : Calls Tryz.prog 23 #[.pointer (some ⟨gK, 0, none⟩)] w fun e w' => e = .returned v ∧ w' = w := by
  go_enter Tryz.func23, Tryz.ntmps23
  go_wp2_with fail
  go_ret
  exact ⟨rfl, by trivial⟩
set_option maxRecDepth 100000 in
theorem rSpots_2 (gK gL : Nat) (v : Value) (w : World) (h0 : w.cell? ⟨gK, 0, none⟩ = some (.int .i64 2)) (h1 : w.cell? ⟨gK, 2, none⟩ = some (.pointer (some ⟨gL, 0, none⟩))) (h2 : w.cell? ⟨gL, 3, none⟩ = some v) : Calls Tryz.prog 23 #[.pointer (some ⟨gK, 0, none⟩)] w fun e w' => e = .returned v ∧ w' = w := by
  go_enter Tryz.func23, Tryz.ntmps23
  go_wp2_with fail
  go_ret
  exact ⟨rfl, by trivial⟩
set_option maxRecDepth 100000 in
theorem rSpots_3 (gK gL : Nat) (v : Value) (w : World) (h0 : w.cell? ⟨gK, 0, none⟩ = some (.int .i64 3)) (h1 : w.cell? ⟨gK, 3, none⟩ = some (.pointer (some ⟨gL, 0, none⟩))) (h2 : w.cell? ⟨gL, 3, none⟩ = some v) : Calls Tryz.prog 23 #[.pointer (some ⟨gK, 0, none⟩)] w fun e w' => e = .returned v ∧ w' = w := by
  go_enter Tryz.func23, Tryz.ntmps23
  go_wp2_with fail
  go_ret
  exact ⟨rfl, by trivial⟩
set_option maxRecDepth 100000 in
theorem rSpots_4 (gK gL : Nat) (v : Value) (w : World) (h0 : w.cell? ⟨gK, 0, none⟩ = some (.int .i64 4)) (h1 : w.cell? ⟨gK, 4, none⟩ = some (.pointer (some ⟨gL, 0, none⟩))) (h2 : w.cell? ⟨gL, 2, none⟩ = some v) : Calls Tryz.prog 23 #[.pointer (some ⟨gK, 0, none⟩)] w fun e w' => e = .returned v ∧ w' = w := by
  go_enter Tryz.func23, Tryz.ntmps23
  go_wp2_with fail
  go_ret
  exact ⟨rfl, by trivial⟩
set_option maxRecDepth 100000 in
theorem rSpots_5 (gK gL : Nat) (v : Value) (w : World) (h0 : w.cell? ⟨gK, 0, none⟩ = some (.int .i64 5)) (h1 : w.cell? ⟨gK, 5, none⟩ = some (.pointer (some ⟨gL, 0, none⟩))) (h2 : w.cell? ⟨gL, 2, none⟩ = some v) : Calls Tryz.prog 23 #[.pointer (some ⟨gK, 0, none⟩)] w fun e w' => e = .returned v ∧ w' = w := by
  go_enter Tryz.func23, Tryz.ntmps23
  go_wp2_with fail
  go_ret
  exact ⟨rfl, by trivial⟩
section
variable {gK gL gr base hs : Nat} {p : PK} {ρ : Rf} {sp : List Sp} {w : World} (K : RFL w gK gL gr base hs p ρ sp)
include K
theorem rSpots : Calls Tryz.prog 23 #[.pointer (some ⟨gK, 0, none⟩)] w fun e w' => (∃ c : Nat, e = .returned (.slice (some ⟨hs, 0, none⟩) sp.length c)) ∧ w' = w := by
  cases p with
  | tas P =>
    have h0 := blk_cell K.fb 0 (by simp [rcs])
    have h1 := blk_cell K.fb 1 (by simp [rcs])
    simp only [rcs, List.getElem_toArray, List.getElem_cons_zero, List.getElem_cons_succ] at h0 h1
    obtain ⟨⟨c, q0, q1, q2, q3⟩, _⟩ := Ta.RLk.heads K.at_
    exact (rSpots_1 gK gL _ w h0 h1 q3).mono fun e w' ⟨a, b⟩ => ⟨⟨c, a⟩, b⟩
  | tic P =>
    have h0 := blk_cell K.fb 0 (by simp [rcs])
    have h1 := blk_cell K.fb 2 (by simp [rcs])
    simp only [rcs, List.getElem_toArray, List.getElem_cons_zero, List.getElem_cons_succ] at h0 h1
    obtain ⟨⟨c, q0, q1, q2, q3⟩, _⟩ := Tk.RLk.heads K.at_
    exact (rSpots_2 gK gL _ w h0 h1 q3).mono fun e w' ⟨a, b⟩ => ⟨⟨c, a⟩, b⟩
  | par P =>
    have h0 := blk_cell K.fb 0 (by simp [rcs])
    have h1 := blk_cell K.fb 3 (by simp [rcs])
    simp only [rcs, List.getElem_toArray, List.getElem_cons_zero, List.getElem_cons_succ] at h0 h1
    obtain ⟨⟨c, q0, q1, q2, q3⟩, _⟩ := Pt.RLk.heads K.at_
    exact (rSpots_3 gK gL _ w h0 h1 q3).mono fun e w' ⟨a, b⟩ => ⟨⟨c, a⟩, b⟩
  | mcs P =>
    have h0 := blk_cell K.fb 0 (by simp [rcs])
    have h1 := blk_cell K.fb 4 (by simp [rcs])
    simp only [rcs, List.getElem_toArray, List.getElem_cons_zero, List.getElem_cons_succ] at h0 h1
    obtain ⟨⟨c, q0, q1, q2⟩, _⟩ := Mc.RLk.heads K.at_
    exact (rSpots_4 gK gL _ w h0 h1 q2).mono fun e w' ⟨a, b⟩ => ⟨⟨c, a⟩, b⟩
  | clh P =>
    have h0 := blk_cell K.fb 0 (by simp [rcs])
    have h1 := blk_cell K.fb 5 (by simp [rcs])
    simp only [rcs, List.getElem_toArray, List.getElem_cons_zero, List.getElem_cons_succ] at h0 h1
    obtain ⟨⟨c, q0, q1, q2⟩, _⟩ := Cl.RLk.heads K.at_
    exact (rSpots_5 gK gL _ w h0 h1 q2).mono fun e w' ⟨a, b⟩ => ⟨⟨c, a⟩, b⟩
def RAct (gK gL gr base hs : Nat) (p : PK) (r : Bool × Ar × List Sp) (w : World) (w' : World) : Prop :=
  (∃ ρ', Alk r.2.1 ρ' ∧ RFL w' gK gL gr base hs p ρ' r.2.2) ∧ RMs base [gr, hs] w w'

set_option maxRecDepth 100000 in
theorem rSpot (i : Int) : Calls Tryz.prog 25 #[.pointer (some ⟨gK, 0, none⟩), .int .i64 i] w fun e w' => e = .returned (.agg #[.int .i64 (spOf sp i).pc, .int .i64 (spOf sp i).a, .int .i64 (spOf sp i).b, .int .i64 (spOf sp i).c]) ∧ Below w.heap.size w w' := by
  have hbn := below_new w (.cells #[.int .i64 0, .int .i64 0, .int .i64 0, .int .i64 0] 53)
  have K1 := K.same hbn
  have HC := Lib.hid (rSpots K1)
  obtain ⟨_, _, hl32, _⟩ := K.at_.facts
  by_cases hi : i < 0 ∨ (sp.length : Int) ≤ i
  · rw [spOf_out hi]
    clear K K1
    by_cases h0 : i < 0
    · go_enter Tryz.func25, Tryz.ntmps25
      go_wp2_with fail
      refine HC.out.mono ?_
      rintro e w2 ⟨⟨c, rfl⟩, hw2⟩
      obtain rfl := hw2.symm
      go_wp2_with fail
      exact bodyPost_ret (v := .agg #[.int .i64 0, .int .i64 0, .int .i64 0, .int .i64 0]) (by simp [results, Tryz.results25, go_sem]) rfl ⟨rfl, by first | exact hbn | exact ((((hbn.setCell (Nat.le_refl _) _).setCell (Nat.le_refl _) _).setCell (Nat.le_refl _) _).setCell (Nat.le_refl _) _)⟩
    · have h1 : (sp.length : Int) ≤ i := by omega
      have h2 : decide (i < 0) = false := decide_eq_false h0
      go_enter Tryz.func25, Tryz.ntmps25
      go_wp2_with fail
      refine HC.out.mono ?_
      rintro e w2 ⟨⟨c, rfl⟩, hw2⟩
      obtain rfl := hw2.symm
      go_wp2_with fail
      exact bodyPost_ret (v := .agg #[.int .i64 0, .int .i64 0, .int .i64 0, .int .i64 0]) (by simp [results, Tryz.results25, go_sem]) rfl ⟨rfl, by first | exact hbn | exact ((((hbn.setCell (Nat.le_refl _) _).setCell (Nat.le_refl _) _).setCell (Nat.le_refl _) _).setCell (Nat.le_refl _) _)⟩
  · obtain ⟨k, rfl⟩ := Int.eq_ofNat_of_zero_le (show 0 ≤ i by omega)
    have hk : k < sp.length := by omega
    have hlt := K.at_.facts.2.1.lt
    obtain ⟨c0, c1, c2, c3, _⟩ := K.at_.facts.2.1.cells k hk
    have hk1 : (k : Int) < (sp.length : Int) := by omega
    have hk2 : (0 : Int) ≤ (k : Int) := by omega
    have hk3 : decide ((k : Int) < 0) = false := decide_eq_false (by omega)
    have hk4 : decide ((sp.length : Int) ≤ (k : Int)) = false := decide_eq_false (by omega)
    rw [spOf_in hk]
    clear K K1 hi
    generalize sp[k] = s at *
    obtain ⟨xp, xa, xb, xc⟩ := s
    simp only at c0 c1 c2 c3 ⊢
    go_enter Tryz.func25, Tryz.ntmps25
    go_wp2_with fail
    refine HC.out.mono ?_
    rintro e w2 ⟨⟨c, rfl⟩, hw2⟩
    obtain rfl := hw2.symm
    go_wp2_with fail
    exact bodyPost_ret (v := .agg #[.int .i64 xp, .int .i64 xa, .int .i64 xb, .int .i64 xc]) (by simp [results, Tryz.results25, go_sem]) rfl ⟨rfl, by first | exact below_new _ _ | exact (Below.refl _ _).alloc (Nat.le_refl _) _⟩
end
end Go.Proofs.YthffhhgaeolpgaaGreat.Fl

