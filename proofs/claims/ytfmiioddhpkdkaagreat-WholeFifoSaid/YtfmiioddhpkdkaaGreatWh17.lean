/- Merged texts: Fl5, Fl6, FlO1, Qu. -/
import Derived.Test.YtfmiioddhpkdkaaGreatWh16
set_option linter.unusedVariables false
set_option linter.unusedSimpArgs false
namespace Go.Proofs.YtfmiioddhpkdkaaGreat.Fl
open Go.RowKit Go.Proofs.YtfmiioddhpkdkaaGreat.Ara Go.Proofs.YtfmiioddhpkdkaaGreat.Lok
inductive PK where
 |tas (P:Ta.Par)
 |tic (P:Tk.Par)
 |par (P:Pt.Par)
 |mcs (P:Mc.Par)
 |clh (P:Cl.Par)
def PK.num:PK→Int
 |.tas _=>1
 |.tic _=>2
 |.par _=>3
 |.mcs _=>4
 |.clh _=>5
def PK.ty:PK→TypeId
 |.tas _=>225
 |.tic _=>226
 |.par _=>229
 |.mcs _=>232
 |.clh _=>235
def PK.val (gl:Nat):PK→Value
 |.tas _=> .agg #[.pointer (some ⟨gl,0,none⟩)]
 |_=> .pointer (some ⟨gl,0,none⟩)
def doK:PK→Ar→List Sp→Int→Int→Bool×Ar×List Sp
 |.tas P=>Ta.doP P
 |.tic P=>Tk.doP P
 |.par P=>Pt.doP P
 |.mcs P=>Mc.doP P
 |.clh P=>Cl.doP P
def OkK:PK→Ar→List Sp→Nat→Nat→Prop
 |.tas P=>Ta.OkP P
 |.tic P=>Tk.OkP P
 |.par P=>Pt.OkP P
 |.mcs P=>Mc.OkP P
 |.clh P=>Cl.OkP P
theorem do_ops (p:PK)(σ:Ar)(sp:List Sp)(kd i:Int):(doK p σ sp kd i).2.1.ops≤σ.ops+1∧σ.ops≤(doK p σ sp kd i).2.1.ops:=by
 cases p with
 |tas P=>exact Ta.do_ops P σ sp kd i
 |tic P=>exact Tk.do_ops P σ sp kd i
 |par P=>exact Pt.do_ops P σ sp kd i
 |mcs P=>exact Mc.do_ops P σ sp kd i
 |clh P=>exact Cl.do_ops P σ sp kd i
theorem do_len (p:PK)(σ:Ar)(sp:List Sp)(kd i:Int):(doK p σ sp kd i).2.2.length=sp.length:=by
 cases p with
 |tas P=>exact Ta.do_len P σ sp kd i
 |tic P=>exact Tk.do_len P σ sp kd i
 |par P=>exact Pt.do_len P σ sp kd i
 |mcs P=>exact Mc.do_len P σ sp kd i
 |clh P=>exact Cl.do_len P σ sp kd i
theorem do_else (p:PK)(σ:Ar)(sp:List Sp)(kd i:Int)(h:kd<0∨3<kd):doK p σ sp kd i=(false,σ,sp):=by
 cases p with
 |tas P=>show Ta.doP P σ sp kd i=_;unfold Ta.doP;rw[if_neg (by omega),if_neg (by omega),if_neg (by omega),if_neg (by omega)]
 |tic P=>show Tk.doP P σ sp kd i=_;unfold Tk.doP;rw[if_neg (by omega),if_neg (by omega),if_neg (by omega),if_neg (by omega)]
 |par P=>show Pt.doP P σ sp kd i=_;unfold Pt.doP;rw[if_neg (by omega),if_neg (by omega),if_neg (by omega),if_neg (by omega)]
 |mcs P=>show Mc.doP P σ sp kd i=_;unfold Mc.doP;rw[if_neg (by omega),if_neg (by omega),if_neg (by omega),if_neg (by omega)]
 |clh P=>show Cl.doP P σ sp kd i=_;unfold Cl.doP;rw[if_neg (by omega),if_neg (by omega),if_neg (by omega),if_neg (by omega)]
section
variable {p:PK}{σ:Ar}{sp:List Sp}{n m:Nat}(h:OkK p σ sp n m)
include h
theorem OkK.act (kd i:Int):OkK p (doK p σ sp kd i).2.1 (doK p σ sp kd i).2.2 n (m+1):=by
 cases p with
 |tas P=>exact Ta.OkP.act h kd i
 |tic P=>exact Tk.OkP.act h kd i
 |par P=>exact Pt.OkP.act h kd i
 |mcs P=>exact Mc.OkP.act h kd i
 |clh P=>exact Cl.OkP.act h kd i
theorem OkK.one:cnt (fun s=>s.pc==10) sp n≤1:=by
 cases p with
 |tas P=>exact Ta.OkP.one h
 |tic P=>exact Tk.OkP.one h
 |par P=>exact Pt.OkP.one h
 |mcs P=>exact Mc.OkP.one h
 |clh P=>exact Cl.OkP.one h
theorem OkK.len:sp.length=n:=by
 cases p with
 |tas P=>exact Ta.OkP.len h
 |tic P=>exact Tk.OkP.len h
 |par P=>exact Pt.OkP.len h
 |mcs P=>exact Mc.OkP.len h
 |clh P=>exact Cl.OkP.len h
theorem OkK.ops:σ.ops≤m+1:=by
 cases p with
 |tas P=>exact Ta.OkP.ops h
 |tic P=>exact Tk.OkP.ops h
 |par P=>exact Pt.OkP.ops h
 |mcs P=>exact Mc.OkP.ops h
 |clh P=>exact Cl.OkP.ops h
end
def PK.At (p:PK)(W:World)(gl ga ha hs:Nat)(σ:Ar)(sp:List Sp):Prop:=
 match p with
 |.tas P=>Ta.LkAt W gl ga ha hs P σ sp
 |.tic P=>Tk.LkAt W gl ga ha hs P σ sp
 |.par P=>Pt.LkAt W gl ga ha hs P σ sp
 |.mcs P=>Mc.LkAt W gl ga ha hs P σ sp
 |.clh P=>Cl.LkAt W gl ga ha hs P σ sp
theorem PK.At.same {p:PK}{W W':World}{gl ga ha hs:Nat}{σ:Ar}{sp:List Sp}(k:p.At W gl ga ha hs σ sp)(hb:Below W.heap.size W W'):p.At W' gl ga ha hs σ sp:=by
 cases p with
 |tas P=>exact Ta.LkAt.same k hb
 |tic P=>exact Tk.LkAt.same k hb
 |par P=>exact Pt.LkAt.same k hb
 |mcs P=>exact Mc.LkAt.same k hb
 |clh P=>exact Cl.LkAt.same k hb
theorem PK.At.mod {p:PK}{S:List Nat}{W W':World}{gl ga ha hs:Nat}{σ:Ar}{sp:List Sp}(k:p.At W gl ga ha hs σ sp)(hm:Mod S W W')(h1:gl∉S)(h2:ga∉S)(h3:ha∉S)(h4:hs∉S):p.At W' gl ga ha hs σ sp:=by
 cases p with
 |tas P=>exact Ta.LkAt.mod k hm h1 h2 h3 h4
 |tic P=>exact Tk.LkAt.mod k hm h1 h2 h3 h4
 |par P=>exact Pt.LkAt.mod k hm h1 h2 h3 h4
 |mcs P=>exact Mc.LkAt.mod k hm h1 h2 h3 h4
 |clh P=>exact Cl.LkAt.mod k hm h1 h2 h3 h4
theorem PK.At.facts {p:PK}{W:World}{gl ga ha hs:Nat}{σ:Ar}{sp:List Sp}(k:p.At W gl ga ha hs σ sp):ArAt W ga ha σ∧SpAt W hs sp∧sp.length≤32∧gl<W.heap.size∧(gl≠ga∧gl≠ha∧gl≠hs∧hs≠ga∧hs≠ha):=by
 cases p with
 |tas P=>obtain⟨k1,k2,k3,⟨c,k4⟩,k5⟩:=k;exact⟨k1,k2,k3,lt_of_blk k4,k5⟩
 |tic P=>obtain⟨k1,k2,k3,⟨c,k4⟩,k5⟩:=k;exact⟨k1,k2,k3,lt_of_blk k4,k5⟩
 |par P=>obtain⟨k1,k2,k3,⟨c,k4⟩,k5⟩:=k;exact⟨k1,k2,k3,lt_of_blk k4,k5⟩
 |mcs P=>obtain⟨k1,k2,k3,⟨c,k4⟩,k5⟩:=k;exact⟨k1,k2,k3,lt_of_blk k4,k5⟩
 |clh P=>obtain⟨k1,k2,k3,⟨c,k4⟩,k5⟩:=k;exact⟨k1,k2,k3,lt_of_blk k4,k5⟩
structure FLAt (W:World)(gf gl ga ha hs:Nat)(p:PK)(σ:Ar)(sp:List Sp):Prop where
 fb:FlB W gf p.num p.ty (p.val gl)
 at_:p.At W gl ga ha hs σ sp
 n1:gf≠ga
 n2:gf≠ha
 n3:gf≠hs
theorem FLAt.same {W W':World}{gf gl ga ha hs:Nat}{p:PK}{σ:Ar}{sp:List Sp}(k:FLAt W gf gl ga ha hs p σ sp)(hb:Below W.heap.size W W'):FLAt W' gf gl ga ha hs p σ sp:=⟨FlB.same k.fb hb,k.at_.same hb,k.n1,k.n2,k.n3⟩
theorem FLAt.mod {S:List Nat}{W W':World}{gf gl ga ha hs:Nat}{p:PK}{σ:Ar}{sp:List Sp}(k:FLAt W gf gl ga ha hs p σ sp)(hm:Mod S W W')(h0:gf∉S)(h1:gl∉S)(h2:ga∉S)(h3:ha∉S)(h4:hs∉S):FLAt W' gf gl ga ha hs p σ sp:=⟨FlB.mod k.fb hm h0,k.at_.mod hm h1 h2 h3 h4,k.n1,k.n2,k.n3⟩
theorem FLAt.acts {W W':World}{gf gl ga ha hs:Nat}{p:PK}{σ σ':Ar}{sp sp':List Sp}(k:FLAt W gf gl ga ha hs p σ sp)(h:p.At W' gl ga ha hs σ' sp')(hm:Mod [ga,ha,hs] W W'):FLAt W' gf gl ga ha hs p σ' sp':=by
 have h1:=k.n1;have h2:=k.n2;have h3:=k.n3;exact⟨FlB.mod k.fb hm (by simp;omega),h,h1,h2,h3⟩
theorem FLAt.blocks {W:World}{gf gl ga ha hs:Nat}{p:PK}{σ:Ar}{sp:List Sp}(k:FLAt W gf gl ga ha hs p σ sp):gf<W.heap.size∧gl<W.heap.size∧ga<W.heap.size∧hs<W.heap.size:=
 ⟨lt_of_blk k.fb,k.at_.facts.2.2.2.1,k.at_.facts.1.lt,k.at_.facts.2.1.lt⟩
section
variable {gf gl ga ha hs:Nat}{p:PK}{σ:Ar}{sp:List Sp}{w:World}(K:FLAt w gf gl ga ha hs p σ sp)
include K
theorem Ask_flat (n m:Nat)(ho:OkK p σ sp n m)(hm:m≤100000)(i:Int):Calls Tryz.prog 171 #[.pointer (some ⟨gf,0,none⟩),.int .i64 i] w fun e w'=>e= .returned (.bool (doK p σ sp 1 i).1)∧FLAt w' gf gl ga ha hs p (doK p σ sp 1 i).2.1 (doK p σ sp 1 i).2.2∧Mod [ga,ha,hs] w w':=by
 suffices h:Calls Tryz.prog 171 #[.pointer (some ⟨gf,0,none⟩),.int .i64 i] w fun e w'=>e= .returned (.bool (doK p σ sp 1 i).1)∧(p.At w' gl ga ha hs (doK p σ sp 1 i).2.1 (doK p σ sp 1 i).2.2∧Mod [ga,ha,hs] w w') from
  h.mono fun e w' ⟨h1,h2,h3⟩=>⟨h1,K.acts h2 h3,h3⟩
 cases p with
 |tas P=>exact Ask_gen gf 1 (by decide) _ _ _ _ w c1_Ask (m1_Ask gl) K.fb i _ _ ((Ta.ask_lk gl ga ha hs P σ sp w K.at_ i).mono fun e w' ⟨a,b,c⟩=>⟨a,b,c.sub (by simp)⟩)
 |tic P=>exact Ask_gen gf 2 (by decide) _ _ _ _ w c2_Ask (m2_Ask gl) K.fb i _ _ ((Tk.Ask_lk gl ga ha hs P σ sp w K.at_ i).mono fun e w' ⟨a,b,c⟩=>⟨a,b,c.sub (by simp)⟩)
 |par P=>exact Ask_gen gf 3 (by decide) _ _ _ _ w c3_Ask (m3_Ask gl) K.fb i _ _ ((Pt.Ask_lk gl ga ha hs P σ sp w K.at_ i).mono fun e w' ⟨a,b,c⟩=>⟨a,b,c.sub (by simp)⟩)
 |mcs P=>exact Ask_gen gf 4 (by decide) _ _ _ _ w c4_Ask (m4_Ask gl) K.fb i _ _ ((Mc.Ask_lk gl ga ha hs P σ sp w K.at_ i).mono fun e w' ⟨a,b,c⟩=>⟨a,b,c.sub (by simp)⟩)
 |clh P=>exact Ask_gen gf 5 (by decide) _ _ _ _ w c5_Ask (m5_Ask gl) K.fb i _ _ ((Cl.Ask_lk gl ga ha hs P σ sp w K.at_ i).mono fun e w' ⟨a,b,c⟩=>⟨a,b,c.sub (by simp)⟩)
theorem Leave_flat (n m:Nat)(ho:OkK p σ sp n m)(hm:m≤100000)(i:Int):Calls Tryz.prog 178 #[.pointer (some ⟨gf,0,none⟩),.int .i64 i] w fun e w'=>e= .returned (.bool (doK p σ sp 2 i).1)∧FLAt w' gf gl ga ha hs p (doK p σ sp 2 i).2.1 (doK p σ sp 2 i).2.2∧Mod [ga,ha,hs] w w':=by
 suffices h:Calls Tryz.prog 178 #[.pointer (some ⟨gf,0,none⟩),.int .i64 i] w fun e w'=>e= .returned (.bool (doK p σ sp 2 i).1)∧(p.At w' gl ga ha hs (doK p σ sp 2 i).2.1 (doK p σ sp 2 i).2.2∧Mod [ga,ha,hs] w w') from
  h.mono fun e w' ⟨h1,h2,h3⟩=>⟨h1,K.acts h2 h3,h3⟩
 cases p with
 |tas P=>exact Leave_gen gf 1 (by decide) _ _ _ _ w c1_Leave (m1_Leave gl) K.fb i _ _ ((Ta.leave_lk gl ga ha hs P σ sp w K.at_ i).mono fun e w' ⟨a,b,c⟩=>⟨a,b,c.sub (by simp)⟩)
 |tic P=>exact Leave_gen gf 2 (by decide) _ _ _ _ w c2_Leave (m2_Leave gl) K.fb i _ _ ((Tk.Leave_lk gl ga ha hs P σ sp w K.at_ i).mono fun e w' ⟨a,b,c⟩=>⟨a,b,c.sub (by simp)⟩)
 |par P=>exact Leave_gen gf 3 (by decide) _ _ _ _ w c3_Leave (m3_Leave gl) K.fb i _ _ ((Pt.Leave_lk gl ga ha hs P σ sp w K.at_ i).mono fun e w' ⟨a,b,c⟩=>⟨a,b,c.sub (by simp)⟩)
 |mcs P=>exact Leave_gen gf 4 (by decide) _ _ _ _ w c4_Leave (m4_Leave gl) K.fb i _ _ ((Mc.Leave_lk gl ga ha hs P σ sp w K.at_ i).mono fun e w' ⟨a,b,c⟩=>⟨a,b,c.sub (by simp)⟩)
 |clh P=>exact Leave_gen gf 5 (by decide) _ _ _ _ w c5_Leave (m5_Leave gl) K.fb i _ _ ((Cl.Leave_lk gl ga ha hs P σ sp w K.at_ i).mono fun e w' ⟨a,b,c⟩=>⟨a,b,c.sub (by simp)⟩)
theorem Step_flat (n m:Nat)(ho:OkK p σ sp n m)(hm:m≤100000)(i:Int):Calls Tryz.prog 175 #[.pointer (some ⟨gf,0,none⟩),.int .i64 i] w fun e w'=>e= .returned (.bool (doK p σ sp 0 i).1)∧FLAt w' gf gl ga ha hs p (doK p σ sp 0 i).2.1 (doK p σ sp 0 i).2.2∧Mod [ga,ha,hs] w w':=by
 suffices h:Calls Tryz.prog 175 #[.pointer (some ⟨gf,0,none⟩),.int .i64 i] w fun e w'=>e= .returned (.bool (doK p σ sp 0 i).1)∧(p.At w' gl ga ha hs (doK p σ sp 0 i).2.1 (doK p σ sp 0 i).2.2∧Mod [ga,ha,hs] w w') from
  h.mono fun e w' ⟨h1,h2,h3⟩=>⟨h1,K.acts h2 h3,h3⟩
 cases p with
 |tas P=>exact Step_gen gf 1 (by decide) _ _ _ _ w c1_Step (m1_Step gl) K.fb i _ _ (Ta.step_lk gl ga ha hs P σ sp w K.at_ (Ta.OkP.inv ho) (by have:=Ta.OkP.ops ho;omega) i)
 |tic P=>exact Step_gen gf 2 (by decide) _ _ _ _ w c2_Step (m2_Step gl) K.fb i _ _ (Tk.step_lk gl ga ha hs P σ sp w K.at_ (Tk.OkP.num ho hm) i)
 |par P=>exact Step_gen gf 3 (by decide) _ _ _ _ w c3_Step (m3_Step gl) K.fb i _ _ (Pt.step_lk gl ga ha hs P σ sp w K.at_ (Pt.OkP.num ho hm) i)
 |mcs P=>exact Step_gen gf 4 (by decide) _ _ _ _ w c4_Step (m4_Step gl) K.fb i _ _ (Mc.step_lk gl ga ha hs P σ sp w K.at_ (Mc.OkP.num ho hm) i)
 |clh P=>exact Step_gen gf 5 (by decide) _ _ _ _ w c5_Step (m5_Step gl) K.fb i _ _ (Cl.step_lk gl ga ha hs P σ sp w K.at_ (Cl.OkP.num ho hm) i)
theorem Alone_flat (n m:Nat)(ho:OkK p σ sp n m)(hm:m≤100000)(i:Int):Calls Tryz.prog 177 #[.pointer (some ⟨gf,0,none⟩),.int .i64 i] w fun e w'=>e= .returned (.bool (doK p σ sp 3 i).1)∧FLAt w' gf gl ga ha hs p (doK p σ sp 3 i).2.1 (doK p σ sp 3 i).2.2∧Mod [ga,ha,hs] w w':=by
 suffices h:Calls Tryz.prog 177 #[.pointer (some ⟨gf,0,none⟩),.int .i64 i] w fun e w'=>e= .returned (.bool (doK p σ sp 3 i).1)∧(p.At w' gl ga ha hs (doK p σ sp 3 i).2.1 (doK p σ sp 3 i).2.2∧Mod [ga,ha,hs] w w') from
  h.mono fun e w' ⟨h1,h2,h3⟩=>⟨h1,K.acts h2 h3,h3⟩
 cases p with
 |tas P=>exact Alone_gen gf 1 (by decide) _ _ _ _ w c1_Alone (m1_Alone gl) K.fb i _ _ ((lone_alone gl ga ha hs P σ sp w K.at_ i _ rfl).mono fun e w' ⟨a,b⟩=>⟨a,Ta.LkAt.same K.at_ b,Mod.of_below b⟩)
 |tic P=>exact Alone_gen gf 2 (by decide) _ _ _ _ w c2_Alone (m2_Alone gl) K.fb i _ _ ((Tk.alone_lk gl ga ha hs P σ sp w K.at_ (Tk.OkP.num ho hm) i).mono fun e w' ⟨a,b,c⟩=>⟨a,b,c.sub (by simp)⟩)
 |par P=>exact Alone_gen gf 3 (by decide) _ _ _ _ w c3_Alone (m3_Alone gl) K.fb i _ _ ((Pt.alone_lk gl ga ha hs P σ sp w K.at_ (Pt.OkP.num ho hm).2.1 (Pt.OkP.num ho hm).2.2.1 i).mono fun e w' ⟨a,b,c⟩=>⟨a,b,c.sub (by simp)⟩)
 |mcs P=>exact Alone_gen gf 4 (by decide) _ _ _ _ w c4_Alone (m4_Alone gl) K.fb i _ _ ((Mc.alone_lk gl ga ha hs P σ sp w K.at_ (Mc.OkP.num ho hm) i).mono fun e w' ⟨a,b,c⟩=>⟨a,b,c.sub (by simp)⟩)
 |clh P=>exact Alone_gen gf 5 (by decide) _ _ _ _ w c5_Alone (m5_Alone gl) K.fb i _ _ ((Cl.alone_lk gl ga ha hs P σ sp w K.at_ (Cl.OkP.num ho hm) i).mono fun e w' ⟨a,b,c⟩=>⟨a,b,c.sub (by simp)⟩)
theorem Spot_flat (i:Int):Calls Tryz.prog 290 #[.pointer (some ⟨gf,0,none⟩),.int .i64 i] w fun e w'=>e= .returned (.agg #[.int .i64 (spOf sp i).pc,.int .i64 (spOf sp i).a,.int .i64 (spOf sp i).b,.int .i64 (spOf sp i).c])∧Below w.heap.size w w':=by
 cases p with
 |tas P=>exact Spot_gen gf 1 (by decide) _ _ _ _ w c1_Spot (m1_Spot gl) K.fb i _ (fun W hW=>Ta.Spot_lk gl ga ha hs P σ sp W (Ta.LkAt.same K.at_ hW) i)
 |tic P=>exact Spot_gen gf 2 (by decide) _ _ _ _ w c2_Spot (m2_Spot gl) K.fb i _ (fun W hW=>Tk.LSpot_lk gl ga ha hs P σ sp W (Tk.LkAt.same K.at_ hW) i)
 |par P=>exact Spot_gen gf 3 (by decide) _ _ _ _ w c3_Spot (m3_Spot gl) K.fb i _ (fun W hW=>Pt.Spot_lk gl ga ha hs P σ sp W (Pt.LkAt.same K.at_ hW) i)
 |mcs P=>exact Spot_gen gf 4 (by decide) _ _ _ _ w c4_Spot (m4_Spot gl) K.fb i _ (fun W hW=>Mc.Spot_lk gl ga ha hs P σ sp W (Mc.LkAt.same K.at_ hW) i)
 |clh P=>exact Spot_gen gf 5 (by decide) _ _ _ _ w c5_Spot (m5_Spot gl) K.fb i _ (fun W hW=>Cl.Spot_lk gl ga ha hs P σ sp W (Cl.LkAt.same K.at_ hW) i)
end
end Go.Proofs.YtfmiioddhpkdkaaGreat.Fl
namespace Go.Proofs.YtfmiioddhpkdkaaGreat.Fl
open Go.RowKit Go.Proofs.YtfmiioddhpkdkaaGreat.Ara Go.Proofs.YtfmiioddhpkdkaaGreat.Lok
set_option maxRecDepth 100000 in
theorem new_k1 (ga ha:Nat)(σ σ1:Ar)(w:World)(H:ArAt w ga ha σ)(hh:ha<w.heap.size)(n:Nat)(n1:1≤n)(n2:n≤32)(par:Int)(m1:1≤par)(m2:par≤1024)(next:Int)(ht:σ.take 1=((next,0),σ1)):
 Calls Tryz.prog 75 #[.pointer (some ⟨ga,0,none⟩),.int .i64 1,.int .i64 (n:Int),.int .i64 par] w fun e w'=>∃gf gl hs,e= .returned (.tuple #[.pointer (some ⟨gf,0,none⟩),.int .i64 0])∧FlB w' gf 1 225 (.agg #[.pointer (some ⟨gl,0,none⟩)])∧Ta.LkAt w' gl ga ha hs ⟨next,par⟩ σ1 (Ta.zeroS n)∧(w.heap.size≤gf∧w.heap.size≤gl∧w.heap.size≤hs∧gf≠hs)∧Mod [ga,ha] w w':=by
 have HN:=Lib.hid (Ta.new_lk ga ha σ σ1 w H hh n n1 n2 par m1 m2 next ht);clear H ht;go_enter Tryz.func75,Tryz.ntmps75;go_wp2_with fail;refine HN.out.mono ?_;rintro e w2 ⟨gl,hs,rfl,hk,hgl,hhs,hm⟩;have hbn:=below_new w2 (.cells #[.int .i64 1,.iface 225 (.agg #[.pointer (some ⟨gl,0,none⟩)])] 239);have HB:=Lib.hid (blk_new w2 (.cells #[.int .i64 1,.iface 225 (.agg #[.pointer (some ⟨gl,0,none⟩)])] 239));have hz:=hm.size;have hlt:=hk.2.1.lt;have HK:=Lib.hid (hk.same hbn);have hmm:=hm.alloc (.cells #[.int .i64 1,.iface 225 (.agg #[.pointer (some ⟨gl,0,none⟩)])] 239);clear hk hm hbn;go_wp2_with fail;go_ret2;exact⟨w2.heap.size,gl,hs,rfl,HB.out,HK.out,by omega,hmm⟩
set_option maxRecDepth 100000 in
theorem new_k2 (ga ha:Nat)(σ σ1:Ar)(w:World)(H:ArAt w ga ha σ)(hh:ha<w.heap.size)(n:Nat)(n1:1≤n)(n2:n≤32)(par:Int)(next:Int)(ht:σ.take 2=((next,0),σ1)):
 Calls Tryz.prog 75 #[.pointer (some ⟨ga,0,none⟩),.int .i64 2,.int .i64 (n:Int),.int .i64 par] w fun e w'=>∃gf gl hs,e= .returned (.tuple #[.pointer (some ⟨gf,0,none⟩),.int .i64 0])∧FlB w' gf 2 226 (.pointer (some ⟨gl,0,none⟩))∧Tk.LkAt w' gl ga ha hs ⟨next⟩ σ1 (Ta.zeroS n)∧(w.heap.size≤gf∧w.heap.size≤gl∧w.heap.size≤hs∧gf≠hs)∧Mod [ga,ha] w w':=by
 have HN:=Lib.hid (Tk.new_lk ga ha σ σ1 w H hh n n1 n2 next ht);clear H ht;go_enter Tryz.func75,Tryz.ntmps75;go_wp2_with fail;refine HN.out.mono ?_;rintro e w2 ⟨gl,hs,rfl,hk,hgl,hhs,hm⟩;have hbn:=below_new w2 (.cells #[.int .i64 2,.iface 226 (.pointer (some ⟨gl,0,none⟩))] 239);have HB:=Lib.hid (blk_new w2 (.cells #[.int .i64 2,.iface 226 (.pointer (some ⟨gl,0,none⟩))] 239));have hz:=hm.size;have hlt:=hk.2.1.lt;have HK:=Lib.hid (hk.same hbn);have hmm:=hm.alloc (.cells #[.int .i64 2,.iface 226 (.pointer (some ⟨gl,0,none⟩))] 239);clear hk hm hbn;go_wp2_with fail;go_ret2;exact⟨w2.heap.size,gl,hs,rfl,HB.out,HK.out,by omega,hmm⟩
set_option maxRecDepth 100000 in
theorem new_k3 (ga ha:Nat)(σ σ1:Ar)(w:World)(H:ArAt w ga ha σ)(hh:ha<w.heap.size)(n:Nat)(n1:1≤n)(n2:n≤32)(par:Int)(p1:1≤par)(p2:par≤32)(next:Int)(x1:1≤next)(x2:next≤4096)(ht:σ.take (1+par)=((next,0),σ1))(ho:σ1.ops≤1000000):
 Calls Tryz.prog 75 #[.pointer (some ⟨ga,0,none⟩),.int .i64 3,.int .i64 (n:Int),.int .i64 par] w fun e w'=>∃gf gl hs,e= .returned (.tuple #[.pointer (some ⟨gf,0,none⟩),.int .i64 0])∧FlB w' gf 3 229 (.pointer (some ⟨gl,0,none⟩))∧Pt.LkAt w' gl ga ha hs ⟨next,par⟩ (σ1.op 2 (Pt.place ⟨next,par⟩ 0) true 1) (Pt.zeroS n)∧(w.heap.size≤gf∧w.heap.size≤gl∧w.heap.size≤hs∧gf≠hs)∧Mod [ga,ha] w w':=by
 have HN:=Lib.hid (Pt.new_lk ga ha σ σ1 w H hh n n1 n2 par next p1 p2 x1 x2 ht ho);clear H ht;go_enter Tryz.func75,Tryz.ntmps75;go_wp2_with fail;refine HN.out.mono ?_;rintro e w2 ⟨gl,hs,rfl,hk,hgl,hhs,hm⟩;have hbn:=below_new w2 (.cells #[.int .i64 3,.iface 229 (.pointer (some ⟨gl,0,none⟩))] 239);have HB:=Lib.hid (blk_new w2 (.cells #[.int .i64 3,.iface 229 (.pointer (some ⟨gl,0,none⟩))] 239));have hz:=hm.size;have hlt:=hk.2.1.lt;have HK:=Lib.hid (hk.same hbn);have hmm:=hm.alloc (.cells #[.int .i64 3,.iface 229 (.pointer (some ⟨gl,0,none⟩))] 239);clear hk hm hbn;go_wp2_with fail;go_ret2;exact⟨w2.heap.size,gl,hs,rfl,HB.out,HK.out,by omega,hmm⟩
set_option maxRecDepth 100000 in
theorem new_k4 (ga ha:Nat)(σ σ1:Ar)(w:World)(H:ArAt w ga ha σ)(hh:ha<w.heap.size)(n:Nat)(n1:1≤n)(n2:n≤32)(par:Int)(next:Int)(x1:1≤next)(x2:next≤4096)(ht:σ.take (1+2*(n:Int))=((next,0),σ1))(ho:σ1.ops≤1000000):
 Calls Tryz.prog 75 #[.pointer (some ⟨ga,0,none⟩),.int .i64 4,.int .i64 (n:Int),.int .i64 par] w fun e w'=>∃gf gl hs,e= .returned (.tuple #[.pointer (some ⟨gf,0,none⟩),.int .i64 0])∧FlB w' gf 4 232 (.pointer (some ⟨gl,0,none⟩))∧Mc.LkAt w' gl ga ha hs ⟨next⟩ σ1 (Mc.zeroS n)∧(w.heap.size≤gf∧w.heap.size≤gl∧w.heap.size≤hs∧gf≠hs)∧Mod [ga,ha] w w':=by
 have HN:=Lib.hid (Mc.new_lk ga ha σ σ1 w H hh n n1 n2 next x1 x2 ht ho);clear H ht;go_enter Tryz.func75,Tryz.ntmps75;go_wp2_with fail;refine HN.out.mono ?_;rintro e w2 ⟨gl,hs,rfl,hk,hgl,hhs,hm⟩;have hbn:=below_new w2 (.cells #[.int .i64 4,.iface 232 (.pointer (some ⟨gl,0,none⟩))] 239);have HB:=Lib.hid (blk_new w2 (.cells #[.int .i64 4,.iface 232 (.pointer (some ⟨gl,0,none⟩))] 239));have hz:=hm.size;have hlt:=hk.2.1.lt;have HK:=Lib.hid (hk.same hbn);have hmm:=hm.alloc (.cells #[.int .i64 4,.iface 232 (.pointer (some ⟨gl,0,none⟩))] 239);clear hk hm hbn;go_wp2_with fail;go_ret2;exact⟨w2.heap.size,gl,hs,rfl,HB.out,HK.out,by omega,hmm⟩
set_option maxRecDepth 100000 in
theorem new_k5 (ga ha:Nat)(σ σ1:Ar)(w:World)(H:ArAt w ga ha σ)(hh:ha<w.heap.size)(n:Nat)(n1:1≤n)(n2:n≤32)(par:Int)(next:Int)(x1:1≤next)(x2:next≤4096)(ht:σ.take ((n:Int)+2)=((next,0),σ1))(ho:σ1.ops≤1000000):
 Calls Tryz.prog 75 #[.pointer (some ⟨ga,0,none⟩),.int .i64 5,.int .i64 (n:Int),.int .i64 par] w fun e w'=>∃gf gl hs,e= .returned (.tuple #[.pointer (some ⟨gf,0,none⟩),.int .i64 0])∧FlB w' gf 5 235 (.pointer (some ⟨gl,0,none⟩))∧Cl.LkAt w' gl ga ha hs ⟨next⟩ (σ1.op 2 next true ((n:Int)+1)) (Cl.first0 n)∧(w.heap.size≤gf∧w.heap.size≤gl∧w.heap.size≤hs∧gf≠hs)∧Mod [ga,ha] w w':=by
 have HN:=Lib.hid (Cl.new_lk ga ha σ σ1 w H hh n n1 n2 next x1 x2 ht ho);clear H ht;go_enter Tryz.func75,Tryz.ntmps75;go_wp2_with fail;refine HN.out.mono ?_;rintro e w2 ⟨gl,hs,rfl,hk,hgl,hhs,hm⟩;have hbn:=below_new w2 (.cells #[.int .i64 5,.iface 235 (.pointer (some ⟨gl,0,none⟩))] 239);have HB:=Lib.hid (blk_new w2 (.cells #[.int .i64 5,.iface 235 (.pointer (some ⟨gl,0,none⟩))] 239));have hz:=hm.size;have hlt:=hk.2.1.lt;have HK:=Lib.hid (hk.same hbn);have hmm:=hm.alloc (.cells #[.int .i64 5,.iface 235 (.pointer (some ⟨gl,0,none⟩))] 239);clear hk hm hbn;go_wp2_with fail;go_ret2;exact⟨w2.heap.size,gl,hs,rfl,HB.out,HK.out,by omega,hmm⟩
def sizeK (kind:Int)(n:Nat)(par:Int):Nat:=if kind=1 then 1 else if kind=2 then 2 else if kind=3 then 1+par.toNat else if kind=4 then 1+2*n else n+2
def mayK (kind:Int)(n:Nat)(par:Int):Prop:=(1≤kind∧kind≤5)∧(1≤n∧n≤32)∧(kind=1→1≤par∧par≤1024)∧(kind=3→1≤par∧par≤32)
def pkK (kind par:Int)(a:Nat):PK:=if kind=1 then .tas ⟨a,par⟩else if kind=2 then .tic ⟨a⟩else if kind=3 then .par ⟨a,par⟩else if kind=4 then .mcs ⟨a⟩else .clh ⟨a⟩
def firstK (kind:Int)(n:Nat)(par:Int)(a:Nat)(σ1:Ar):Ar×List Sp:=
 if kind=3 then(σ1.op 2 (Pt.place ⟨a,par⟩ 0) true 1,Pt.zeroS n)else if kind=5 then(σ1.op 2 (a:Int) true ((n:Int)+1),Cl.first0 n)else(σ1,Ta.zeroS n)
theorem take_ok {σ:Ar}{m:Nat}(h:σ.t+m≤σ.ws.length):σ.take (m:Int)=(((σ.t:Int)+1,0),{σ with t:=σ.t+m}):=by
 unfold Ar.take;rw[if_neg (by omega),if_neg (by omega),Int.toNat_natCast]
theorem zr_take {σ:Ar}{m:Nat}(h:σ.t+m≤σ.ws.length)(hz:∀k,σ.t≤k→σ.ws.getD k 0=0):Zr {σ with t:=σ.t+m} (σ.t+1) m:=by
 refine⟨h,by omega,by show σ.t+1+m≤σ.t+m+1;omega,fun q h1 h2=> ?_⟩;unfold Ar.get;split
 ·exact hz _ (by omega)
 ·rfl
def NewAft (kind:Int)(n:Nat)(par:Int)(ga ha:Nat)(σ:Ar)(w:World)(e:Ending)(w':World):Prop:=
 ∃gf gl hs,e= .returned (.tuple #[.pointer (some ⟨gf,0,none⟩),.int .i64 0])∧FLAt w' gf gl ga ha hs (pkK kind par (σ.t+1)) (firstK kind n par (σ.t+1) {σ with t:=σ.t+sizeK kind n par}).1 (firstK kind n par (σ.t+1) {σ with t:=σ.t+sizeK kind n par}).2∧(w.heap.size≤gf∧w.heap.size≤gl∧w.heap.size≤hs)∧Mod [ga,ha] w w'
theorem new_flat (kind:Int)(n:Nat)(par:Int)(hM:mayK kind n par)(ga ha:Nat)(σ:Ar)(w:World)(H:ArAt w ga ha σ)(hh:ha<w.heap.size)(hr:σ.t+sizeK kind n par≤σ.ws.length)(hw:σ.ws.length≤4096)(ho:σ.ops≤1000000):
 Calls Tryz.prog 75 #[.pointer (some ⟨ga,0,none⟩),.int .i64 kind,.int .i64 (n:Int),.int .i64 par] w (NewAft kind n par ga ha σ w):=by
 obtain⟨⟨k1,k5⟩,⟨n1,n2⟩,ha1,ha3⟩:=hM;have hga:=H.lt;have htk:=take_ok hr;rcases(show kind=1∨kind=2∨kind=3∨kind=4∨kind=5 by omega)with rfl|rfl|rfl|rfl|rfl
 ·obtain⟨m1,m2⟩:=ha1 rfl
  refine(new_k1 ga ha σ _ w H hh n n1 n2 par m1 m2 _ htk).mono ?_;rintro e w' ⟨gf,gl,hs,rfl,hf,hk,⟨b1,b2,b3,b4⟩,hm⟩;exact⟨gf,gl,hs,rfl,⟨hf,hk,by omega,by omega,b4⟩,⟨b1,b2,b3⟩,hm⟩
 ·refine(new_k2 ga ha σ _ w H hh n n1 n2 par _ htk).mono ?_
  rintro e w' ⟨gf,gl,hs,rfl,hf,hk,⟨b1,b2,b3,b4⟩,hm⟩;exact⟨gf,gl,hs,rfl,⟨hf,hk,by omega,by omega,b4⟩,⟨b1,b2,b3⟩,hm⟩
 ·obtain⟨p1,p2⟩:=ha3 rfl
  have hsz:sizeK 3 n par=1+par.toNat:=rfl;rw[hsz]at hr htk;rw[show((1+par.toNat:Nat):Int)=1+par by omega]at htk;refine(new_k3 ga ha σ _ w H hh n n1 n2 par p1 p2 _ (by omega) (by omega) htk ho).mono ?_;rintro e w' ⟨gf,gl,hs,rfl,hf,hk,⟨b1,b2,b3,b4⟩,hm⟩;exact⟨gf,gl,hs,rfl,⟨hf,hk,by omega,by omega,b4⟩,⟨b1,b2,b3⟩,hm⟩
 ·have hsz:sizeK 4 n par=1+2*n:=rfl
  rw[hsz]at hr htk;rw[show((1+2*n:Nat):Int)=1+2*(n:Int) by omega]at htk;refine(new_k4 ga ha σ _ w H hh n n1 n2 par _ (by omega) (by omega) htk ho).mono ?_;rintro e w' ⟨gf,gl,hs,rfl,hf,hk,⟨b1,b2,b3,b4⟩,hm⟩;exact⟨gf,gl,hs,rfl,⟨hf,hk,by omega,by omega,b4⟩,⟨b1,b2,b3⟩,hm⟩
 ·have hsz:sizeK 5 n par=n+2:=rfl
  rw[hsz]at hr htk;rw[show((n+2:Nat):Int)=(n:Int)+2 by omega]at htk;refine(new_k5 ga ha σ _ w H hh n n1 n2 par _ (by omega) (by omega) htk ho).mono ?_;rintro e w' ⟨gf,gl,hs,rfl,hf,hk,⟨b1,b2,b3,b4⟩,hm⟩;exact⟨gf,gl,hs,rfl,⟨hf,hk,by omega,by omega,b4⟩,⟨b1,b2,b3⟩,hm⟩
theorem ok_flat (kind:Int)(n:Nat)(par:Int)(hM:mayK kind n par)(σ:Ar)(hz:∀k,σ.t≤k→σ.ws.getD k 0=0)(hr:σ.t+sizeK kind n par≤σ.ws.length)(hw:σ.ws.length≤4096)(m:Nat)(ho:σ.ops≤m):
 OkK (pkK kind par (σ.t+1)) (firstK kind n par (σ.t+1) {σ with t:=σ.t+sizeK kind n par}).1 (firstK kind n par (σ.t+1) {σ with t:=σ.t+sizeK kind n par}).2 n m:=by
 obtain⟨⟨k1,k5⟩,⟨n1,n2⟩,ha1,ha3⟩:=hM;have hzr:=zr_take hr hz;rcases(show kind=1∨kind=2∨kind=3∨kind=4∨kind=5 by omega)with rfl|rfl|rfl|rfl|rfl
 ·obtain⟨m1,m2⟩:=ha1 rfl
  exact Ta.ok_st hzr par m1 m2 n m (by show σ.ops≤_;omega)
 ·exact Tk.ok_st hzr n m (by show σ.ops≤_;omega) (by have:sizeK 2 n par=2:=rfl;omega)
 ·obtain⟨p1,p2⟩:=ha3 rfl
  obtain⟨p,rfl⟩:=Int.eq_ofNat_of_zero_le (show 0≤par by omega);have h9:sizeK 3 n (p:Int)=1+p:=rfl;rw[h9]at hr;exact Pt.ok_st (p:=p) hzr (by omega) (by omega) n m ho (by omega)
 ·exact Mc.ok_st hzr n2 m (by show σ.ops≤_;omega) (by have:sizeK 4 n par=1+2*n:=rfl;omega)
 ·exact Cl.ok_st hzr n2 m ho (by have:sizeK 5 n par=n+2:=rfl;omega)
end Go.Proofs.YtfmiioddhpkdkaaGreat.Fl
namespace Go.Proofs.YtfmiioddhpkdkaaGreat.Fl
open Go.RowKit Go.Proofs.YtfmiioddhpkdkaaGreat.Ara Go.Proofs.YtfmiioddhpkdkaaGreat.Lok
end Go.Proofs.YtfmiioddhpkdkaaGreat.Fl
namespace Go.Proofs.YtfmiioddhpkdkaaGreat.Fl
open Go.RowKit Go.Proofs.YtfmiioddhpkdkaaGreat.Ara Go.Proofs.YtfmiioddhpkdkaaGreat.Lok
theorem list_ext_get {α:Type}{l:List α}{a:α}(h:a∈l):∃k,∃hk:k<l.length,l[k]=a:=by
 obtain⟨k,hk,e⟩:=List.mem_iff_getElem.1 h;exact⟨k,hk,e⟩
theorem head_zero {α:Type}{l:List α}(h:0<l.length):l.head? =some l[0]:=by
 cases l with
 |nil=>simp at h
 |cons a l=>rfl
theorem spOf_turnS {sp:List Sp}{i fr tO:Int}(j:Int):spOf (turnS sp i fr tO) j=if turnB sp i fr=true∧j=i then {spOf sp i with pc:=tO}else spOf sp j:=by
 cases ht:turnB sp i fr with
 |false=>rw[turn_no tO ht,if_neg (by simp)]
 |true=>
  rw[spOf_turn tO ht j];by_cases e:j=i
  ·rw[if_pos e,if_pos ⟨rfl,e⟩]
  ·rw[if_neg e,if_neg (fun h=>e h.2)]
def Tkq (P:Tk.Par)(σ:Ar)(sp:List Sp)(q:List Int):Prop:=∃S T:Nat,Tk.Inv P σ sp S T∧q.length+S=T∧∀k (h:k<q.length),Tk.inq (spOf sp q[k])∧(spOf sp q[k]).a=(S:Int)+k
section
variable {P:Tk.Par}{σ:Ar}{sp:List Sp}{q:List Int}(h:Tkq P σ sp q)
include h
theorem Tkq.mem (i:Int):i∈q↔Tk.inq (spOf sp i):=by
 obtain⟨S,T,hi,hl,hk⟩:=h;constructor
 ·intro hm
  obtain⟨k,k1,rfl⟩:=list_ext_get hm;exact(hk k k1).1
 ·intro hq
  have ht:=hi.tick i hq;have h1:((spOf sp i).a-S).toNat<q.length:=by omega
  have h2:=hk _ h1;have e:q[((spOf sp i).a-S).toNat]=i:=hi.inj _ _ h2.1 hq (by rw[h2.2];omega);rw[←e];exact List.getElem_mem h1
theorem Tkq.nodup:q.Nodup:=by
 obtain⟨S,T,hi,hl,hk⟩:=h;rw[List.Nodup,List.pairwise_iff_getElem];intro i j h1 h2 hij e;have a1:=(hk i h1).2;have a2:=(hk j h2).2;rw[e,a2]at a1;omega
theorem Tkq.head {i:Int}(hp:(spOf sp i).pc=10∨(spOf sp i).pc=11):q.head? =some i:=by
 have hm:=(h.mem i).2 (.inr hp);obtain⟨S,T,hi,hl,hk⟩:=h;obtain⟨k,k1,e⟩:=list_ext_get hm;have a1:=(hk k k1).2;rw[e,hi.hold i hp]at a1;obtain rfl:k=0:=by omega
 rw[head_zero k1,e]
theorem Tkq.serves {i:Int}(hh:q.head? =some i):σ.get (Tk.place P (spOf sp i).a)=(spOf sp i).a:=by
 obtain⟨S,T,hi,hl,hk⟩:=h;have h0:0<q.length:=by cases q with|nil=>simp at hh|cons a l=>simp
 rw[head_zero h0]at hh;injection hh with hh;have:=(hk 0 h0).2;rw[hh]at this;have e:(spOf sp i).a=(S:Int):=by rw[this];exact Int.add_zero _
 rw[e];exact hi.srv
theorem Tkq.first {i:Int}(hq:Tk.inq (spOf sp i))(hs:σ.get (Tk.place P (spOf sp i).a)=(spOf sp i).a):q.head? =some i:=by
 have hm:=(h.mem i).2 hq;obtain⟨S,T,hi,hl,hk⟩:=h;have ha:=hi.served i hq hs;obtain⟨k,k1,e⟩:=list_ext_get hm;have a1:=(hk k k1).2;rw[e,ha]at a1;obtain rfl:k=0:=by omega
 rw[head_zero k1,e]
theorem Tkq.step (i:Int):((spOf sp i).pc=1∧Tkq P (Tk.stepP P σ sp i).2.1 (Tk.stepP P σ sp i).2.2 (q++ [i]))∨((spOf sp i).pc=11∧(Tk.stepP P σ sp i).1=true∧∃t,q=i::t∧Tkq P (Tk.stepP P σ sp i).2.1 (Tk.stepP P σ sp i).2.2 t)∨((spOf sp i).pc≠1∧(spOf sp i).pc≠11∧Tkq P (Tk.stepP P σ sp i).2.1 (Tk.stepP P σ sp i).2.2 q):=by
 have hm:=h.mem;have hhd:= @Tkq.head P σ sp q h;have hfs:= @Tkq.first P σ sp q h;obtain⟨S,T,hi,hl,hk⟩:=h;by_cases h1:(spOf sp i).pc=1
 ·left
  refine⟨h1,?_⟩;obtain⟨i0,i1⟩:=spOf_range (sp:=sp) (i:=i) (by omega);have hni:¬Tk.inq (spOf sp i):=by unfold Tk.inq;omega
  have hs:=spOf_set i0 i1 {spOf sp i with pc:=2,a:=σ.get P.next};have hv:=hi.takes i _ hs hni rfl hi.gT;rw[←hi.gT]at hv;rw[Tk.step_1 h1];refine⟨S,T+1,hv,by simp;omega,fun k hkl=> ?_⟩;by_cases e:k<q.length
  ·rw[List.getElem_append_left e]
   have hne:q[k]≠i:=fun e2=>hni (e2▸(hk k e).1);show Tk.inq (spOf (sp.set i.toNat _) q[k])∧(spOf (sp.set i.toNat _) q[k]).a=_;rw[hs,if_neg hne];exact hk k e
  ·have ek:k=q.length:=by simp at hkl;omega
   subst ek;rw[List.getElem_append_right (Nat.le_refl _)];simp only[Nat.sub_self,List.getElem_cons_zero];show Tk.inq (spOf (sp.set i.toNat _) i)∧(spOf (sp.set i.toNat _) i).a=_;rw[hs,if_pos rfl];refine⟨.inl rfl,?_⟩;show σ.get P.next=_;rw[hi.gT];omega
 right;by_cases h3:(spOf sp i).pc=11
 ·left
  have hh:=hhd (.inr h3);have e:=hi.hold i (.inr h3);obtain⟨i0,i1⟩:=spOf_range (sp:=sp) (i:=i) (by omega);have hs:=spOf_set i0 i1 {spOf sp i with pc:=0};have hv:=hi.passes i _ hs (.inr h3) rfl rfl;rw[←e]at hv;rw[Tk.step_11 h3];refine⟨h3,rfl,?_⟩;cases q with
  |nil=>simp at hh
  |cons a t=>
   obtain rfl:a=i:=by simpa using hh
   refine⟨t,rfl,S+1,T,hv,by simp at hl;omega,fun k hkl=> ?_⟩;have h5:=hk (k+1) (by simpa using hkl);simp only[List.getElem_cons_succ]at h5
   have hne:t[k]≠a:=by
    intro e2;have:=h5.2;rw[e2,e]at this;omega
   show Tk.inq (spOf (sp.set a.toNat _) t[k])∧(spOf (sp.set a.toNat _) t[k]).a=_;rw[hs,if_neg hne];exact⟨h5.1,by rw[h5.2];omega⟩
 right;refine⟨h1,h3,?_⟩;by_cases h2:(spOf sp i).pc=2
 ·rw[Tk.step_2 h2]
  obtain⟨i0,i1⟩:=spOf_range (sp:=sp) (i:=i) (by omega);by_cases hc:σ.get (Tk.place P (spOf sp i).a)=(spOf sp i).a
  ·have hs:=spOf_set i0 i1 {spOf sp i with pc:=10}
   rw[if_pos hc];refine⟨S,T,(hi.keeps i _ hs (.inl h2) (.inl rfl) rfl (hi.served i (.inl h2) hc)).read _ _,hl,fun k hkl=> ?_⟩;have h5:=hk k hkl;show Tk.inq (spOf (sp.set i.toNat _) q[k])∧(spOf (sp.set i.toNat _) q[k]).a=_;rw[hs];by_cases e:q[k]=i
   ·rw[if_pos e]
    rw[e]at h5;exact⟨.inr (.inl rfl),h5.2⟩
   ·rw[if_neg e];exact h5
  ·rw[if_neg hc]
   exact⟨S,T,hi.read _ _,hl,hk⟩
 ·rw[Tk.step_no h1 h2 h3]
  exact⟨S,T,hi,hl,hk⟩
theorem Tkq.ask (i:Int):Tkq P σ (turnS sp i 0 1) q:=by
 have hm:=h.mem;obtain⟨S,T,hi,hl,hk⟩:=h;cases ht:turnB sp i 0 with
 |false=>rw[turn_no 1 ht];exact⟨S,T,hi,hl,hk⟩
 |true=>
  have hp:=(turn_true ht).2;have hni:¬Tk.inq (spOf sp i):=by unfold Tk.inq;omega
  refine⟨S,T,hi.idle i _ (spOf_turn 1 ht) hni (.inr rfl) rfl,hl,fun k hkl=> ?_⟩;have hne:q[k]≠i:=fun e2=>hni (e2▸(hk k hkl).1);rw[spOf_turn 1 ht,if_neg hne];exact hk k hkl
theorem Tkq.leave (i:Int):Tkq P σ (turnS sp i 10 11) q:=by
 obtain⟨S,T,hi,hl,hk⟩:=h;cases ht:turnB sp i 10 with
 |false=>rw[turn_no 11 ht];exact⟨S,T,hi,hl,hk⟩
 |true=>
  have hp:=(turn_true ht).2;refine⟨S,T,hi.keeps i _ (spOf_turn 11 ht) (.inr (.inl hp)) (.inr rfl) rfl (hi.hold i (.inl hp)),hl,fun k hkl=> ?_⟩;have h5:=hk k hkl;rw[spOf_turn 11 ht];by_cases e:q[k]=i
  ·rw[if_pos e]
   rw[e]at h5;exact⟨.inr (.inr rfl),h5.2⟩
  ·rw[if_neg e];exact h5
theorem Tkq.alone (i:Int):Tkq P (Tk.aloneP P σ sp i).2 sp q:=by
 obtain⟨S,T,hi,hl,hk⟩:=h;unfold Tk.aloneP;split
 ·exact⟨S,T,hi.read _ _,hl,hk⟩
 ·exact⟨S,T,hi,hl,hk⟩
end
def Ptq (P:Pt.Par)(σ:Ar)(sp:List Sp)(q:List Int):Prop:=∃S T:Nat,Pt.Inv P σ sp S T∧q.length+S=T∧∀k (h:k<q.length),Pt.inq (spOf sp q[k])∧(spOf sp q[k]).a=(S:Int)+k
section
variable {P:Pt.Par}{σ:Ar}{sp:List Sp}{q:List Int}(h:Ptq P σ sp q)
include h
theorem Ptq.mem (i:Int):i∈q↔Pt.inq (spOf sp i):=by
 obtain⟨S,T,hi,hl,hk⟩:=h;constructor
 ·intro hm
  obtain⟨k,k1,rfl⟩:=list_ext_get hm;exact(hk k k1).1
 ·intro hq
  have ht:=hi.tick i hq;have h1:((spOf sp i).a-S).toNat<q.length:=by omega
  have h2:=hk _ h1;have e:q[((spOf sp i).a-S).toNat]=i:=hi.inj _ _ h2.1 hq (by rw[h2.2];omega);rw[←e];exact List.getElem_mem h1
theorem Ptq.nodup:q.Nodup:=by
 obtain⟨S,T,hi,hl,hk⟩:=h;rw[List.Nodup,List.pairwise_iff_getElem];intro i j h1 h2 hij e;have a1:=(hk i h1).2;have a2:=(hk j h2).2;rw[e,a2]at a1;omega
theorem Ptq.head {i:Int}(hp:(spOf sp i).pc=10∨(spOf sp i).pc=11):q.head? =some i:=by
 have hm:=(h.mem i).2 (.inr hp);obtain⟨S,T,hi,hl,hk⟩:=h;obtain⟨k,k1,e⟩:=list_ext_get hm;have a1:=(hk k k1).2;rw[e,hi.hold i hp]at a1;obtain rfl:k=0:=by omega
 rw[head_zero k1,e]
theorem Ptq.serves {i:Int}(hh:q.head? =some i):σ.get (Pt.place P (spOf sp i).a)=(spOf sp i).a+1:=by
 obtain⟨S,T,hi,hl,hk⟩:=h;have h0:0<q.length:=by cases q with|nil=>simp at hh|cons a l=>simp
 rw[head_zero h0]at hh;injection hh with hh;have:=(hk 0 h0).2;rw[hh]at this;have e:(spOf sp i).a=(S:Int):=by rw[this];exact Int.add_zero _
 rw[e];exact hi.srv
theorem Ptq.first {i:Int}(hq:Pt.inq (spOf sp i))(hs:σ.get (Pt.place P (spOf sp i).a)=(spOf sp i).a+1):q.head? =some i:=by
 have hm:=(h.mem i).2 hq;obtain⟨S,T,hi,hl,hk⟩:=h;have ha:=hi.served i hq hs;obtain⟨k,k1,e⟩:=list_ext_get hm;have a1:=(hk k k1).2;rw[e,ha]at a1;obtain rfl:k=0:=by omega
 rw[head_zero k1,e]
theorem Ptq.step (i:Int):((spOf sp i).pc=1∧Ptq P (Pt.stepP P σ sp i).2.1 (Pt.stepP P σ sp i).2.2 (q++ [i]))∨((spOf sp i).pc=11∧(Pt.stepP P σ sp i).1=true∧∃t,q=i::t∧Ptq P (Pt.stepP P σ sp i).2.1 (Pt.stepP P σ sp i).2.2 t)∨((spOf sp i).pc≠1∧(spOf sp i).pc≠11∧Ptq P (Pt.stepP P σ sp i).2.1 (Pt.stepP P σ sp i).2.2 q):=by
 have hm:=h.mem;have hhd:= @Ptq.head P σ sp q h;have hfs:= @Ptq.first P σ sp q h;obtain⟨S,T,hi,hl,hk⟩:=h;by_cases h1:(spOf sp i).pc=1
 ·left
  refine⟨h1,?_⟩;obtain⟨i0,i1⟩:=spOf_range (sp:=sp) (i:=i) (by omega);have hni:¬Pt.inq (spOf sp i):=by unfold Pt.inq;omega
  have hs:=spOf_set i0 i1 {spOf sp i with pc:=2,a:=σ.get P.next};have hv:=hi.takes i _ hs hni rfl hi.gT;rw[←hi.gT]at hv;rw[Pt.step_1 h1];refine⟨S,T+1,hv,by simp;omega,fun k hkl=> ?_⟩;by_cases e:k<q.length
  ·rw[List.getElem_append_left e]
   have hne:q[k]≠i:=fun e2=>hni (e2▸(hk k e).1);show Pt.inq (spOf (sp.set i.toNat _) q[k])∧(spOf (sp.set i.toNat _) q[k]).a=_;rw[hs,if_neg hne];exact hk k e
  ·have ek:k=q.length:=by simp at hkl;omega
   subst ek;rw[List.getElem_append_right (Nat.le_refl _)];simp only[Nat.sub_self,List.getElem_cons_zero];show Pt.inq (spOf (sp.set i.toNat _) i)∧(spOf (sp.set i.toNat _) i).a=_;rw[hs,if_pos rfl];refine⟨.inl rfl,?_⟩;show σ.get P.next=_;rw[hi.gT];omega
 right;by_cases h3:(spOf sp i).pc=11
 ·left
  have hh:=hhd (.inr h3);have e:=hi.hold i (.inr h3);obtain⟨i0,i1⟩:=spOf_range (sp:=sp) (i:=i) (by omega);have hs:=spOf_set i0 i1 {spOf sp i with pc:=0};have hv:=hi.passes i _ hs (.inr h3) rfl rfl;rw[←e]at hv;rw[Pt.step_11 h3];refine⟨h3,rfl,?_⟩;cases q with
  |nil=>simp at hh
  |cons a t=>
   obtain rfl:a=i:=by simpa using hh
   refine⟨t,rfl,S+1,T,hv,by simp at hl;omega,fun k hkl=> ?_⟩;have h5:=hk (k+1) (by simpa using hkl);simp only[List.getElem_cons_succ]at h5
   have hne:t[k]≠a:=by
    intro e2;have:=h5.2;rw[e2,e]at this;omega
   show Pt.inq (spOf (sp.set a.toNat _) t[k])∧(spOf (sp.set a.toNat _) t[k]).a=_;rw[hs,if_neg hne];exact⟨h5.1,by rw[h5.2];omega⟩
 right;refine⟨h1,h3,?_⟩;by_cases h2:(spOf sp i).pc=2
 ·rw[Pt.step_2 h2]
  obtain⟨i0,i1⟩:=spOf_range (sp:=sp) (i:=i) (by omega);by_cases hc:σ.get (Pt.place P (spOf sp i).a)=(spOf sp i).a+1
  ·have hs:=spOf_set i0 i1 {spOf sp i with pc:=10}
   rw[if_pos hc];refine⟨S,T,(hi.keeps i _ hs (.inl h2) (.inl rfl) rfl (hi.served i (.inl h2) hc)).read _ _,hl,fun k hkl=> ?_⟩;have h5:=hk k hkl;show Pt.inq (spOf (sp.set i.toNat _) q[k])∧(spOf (sp.set i.toNat _) q[k]).a=_;rw[hs];by_cases e:q[k]=i
   ·rw[if_pos e]
    rw[e]at h5;exact⟨.inr (.inl rfl),h5.2⟩
   ·rw[if_neg e];exact h5
  ·rw[if_neg hc]
   exact⟨S,T,hi.read _ _,hl,hk⟩
 ·rw[Pt.step_no h1 h2 h3]
  exact⟨S,T,hi,hl,hk⟩
theorem Ptq.ask (i:Int):Ptq P σ (turnS sp i 0 1) q:=by
 have hm:=h.mem;obtain⟨S,T,hi,hl,hk⟩:=h;cases ht:turnB sp i 0 with
 |false=>rw[turn_no 1 ht];exact⟨S,T,hi,hl,hk⟩
 |true=>
  have hp:=(turn_true ht).2;have hni:¬Pt.inq (spOf sp i):=by unfold Pt.inq;omega
  refine⟨S,T,hi.idle i _ (spOf_turn 1 ht) hni (.inr rfl) rfl,hl,fun k hkl=> ?_⟩;have hne:q[k]≠i:=fun e2=>hni (e2▸(hk k hkl).1);rw[spOf_turn 1 ht,if_neg hne];exact hk k hkl
theorem Ptq.leave (i:Int):Ptq P σ (turnS sp i 10 11) q:=by
 obtain⟨S,T,hi,hl,hk⟩:=h;cases ht:turnB sp i 10 with
 |false=>rw[turn_no 11 ht];exact⟨S,T,hi,hl,hk⟩
 |true=>
  have hp:=(turn_true ht).2;refine⟨S,T,hi.keeps i _ (spOf_turn 11 ht) (.inr (.inl hp)) (.inr rfl) rfl (hi.hold i (.inl hp)),hl,fun k hkl=> ?_⟩;have h5:=hk k hkl;rw[spOf_turn 11 ht];by_cases e:q[k]=i
  ·rw[if_pos e]
   rw[e]at h5;exact⟨.inr (.inr rfl),h5.2⟩
  ·rw[if_neg e];exact h5
theorem Ptq.alone (i:Int):Ptq P (Pt.aloneP P σ sp i).2 sp q:=by
 obtain⟨S,T,hi,hl,hk⟩:=h;unfold Pt.aloneP;split
 ·exact⟨S,T,hi.read _ _,hl,hk⟩
 ·exact⟨S,T,hi,hl,hk⟩
end
end Go.Proofs.YtfmiioddhpkdkaaGreat.Fl
