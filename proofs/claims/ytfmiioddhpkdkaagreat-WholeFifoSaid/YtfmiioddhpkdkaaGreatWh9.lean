/- Merged texts: Mc3, Mc4, Mc5, PtP. -/
import Derived.Test.YtfmiioddhpkdkaaGreatWh8
set_option linter.unusedVariables false
set_option linter.unusedSimpArgs false
namespace Go.Proofs.YtfmiioddhpkdkaaGreat.Mc
open Go.RowKit Go.Proofs.YtfmiioddhpkdkaaGreat.Ara Go.Proofs.YtfmiioddhpkdkaaGreat.Lok
theorem sfld0 (a b c d:Int)(W:World):(Instr.field 134 (.agg #[.int .i64 a,.int .i64 b,.int .i64 c,.int .i64 d]) 0).run Tryz.prog W= .ok (.int .i64 a) W:=by
 simp[Instr.field,run_underlying Tryz.underlying134,asAgg,go_sem]
theorem setaP (sp:List Sp)(k:Nat)(hk:k<sp.length)(v pn:Int)(hk1:k<(sp.set k {sp[k]with a:=v}).length):(sp.set k {sp[k]with a:=v}).set k {(sp.set k {sp[k]with a:=v})[k]with pc:=pn}=sp.set k {sp[k]with pc:=pn,a:=v}:=by
 have e:(sp.set k {sp[k]with a:=v})[k]={sp[k]with a:=v}:=List.getElem_set_self hk1;rw[e,List.set_set]
theorem ite_beq (c:Prop)[Decidable c](x y tO:Int)(h1:x=tO)(h2:y≠tO):((if c then x else y)==tO)=decide c:=by
 by_cases hc:c
 ·rw[if_pos hc,decide_eq_true hc,h1];simp
 ·rw[if_neg hc,decide_eq_false hc];simp[h2]
section
variable(gl ga ha hs:Nat)(P:Par)(σ:Ar)(sp:List Sp)(w:World)(H:LkAt w gl ga ha hs P σ sp)
include H
set_option maxRecDepth 100000 in
theorem goes_in (k:Nat)(hk:k<sp.length)(tO p':Int)(σ':Ar)(sp1 sp2:List Sp)(hk1:k<sp1.length)(hl1:sp1.length=sp.length)(HF:∀W,LkAt W gl ga ha hs P σ sp→Calls Tryz.prog 376 #[.pointer (some ⟨gl,0,none⟩),.pointer (some ⟨hs,k*4,none⟩),.int .i64 ((k:Int)+1)] W fun e w'=>e= .returned (.int .i64 p')∧LkAt w' gl ga ha hs P σ' sp1∧Mod [ga,ha,hs] W w')
 (h2:sp1.set k {sp1[k]with pc:=p'}=sp2):
 Calls Tryz.prog 375 #[.pointer (some ⟨gl,0,none⟩),.int .i64 (k:Int),.int .i64 tO,.func (.func 376) #[.pointer (some ⟨gl,0,none⟩)] #[]] w fun e w'=>e= .returned (.bool (p'==tO))∧LkAt w' gl ga ha hs P σ' sp2∧Mod [ga,ha,hs] w w':=by
 have HS:=Lib.hid (spot_in_lk gl ga ha hs P σ sp w H k hk);have hl32:=H.2.2.1;have e1:IntKind.i64.wrap ((k:Int)+1)=(k:Int)+1:=IntWalk.i64_in _ (by omega)
 have HC:∀W,LkAt W gl ga ha hs P σ' sp1→W.cell? ⟨hs,k*4,none⟩=some (.int .i64 sp1[k].pc)∧W.frozen? ⟨hs,k*4,none⟩=false∧LkAt (W.setCell ⟨hs,k*4,none⟩ (.int .i64 p')) gl ga ha hs P σ' sp2:=
  fun W K=>⟨(K.2.1.cells k hk1).1,(K.2.1.cells k hk1).2.2.2.2 (k*4),by rw[←h2];exact K.spots (K.2.1.setPc k hk1 p') ((Mod.refl [hs] W).setCell (by simp) _) (by rw[List.length_set])⟩
 replace HC:=Lib.hid HC;replace HF:=Lib.hid HF;have HH:=Lib.hid H;generalize sp1[k].pc=xo at*;clear H h2 hl1;by_cases ht:p'=tO
 ·rw[beq_iff_eq.2 ht]
  have e9:=ibeq ht;clear ht;go_enter Tryz.func375,Tryz.ntmps375;go_wp2_with fail;refine(HS.out).mono ?_;rintro e wx ⟨rfl,hwx⟩;obtain rfl:=hwx.symm;go_wp2_with fail;refine(HF.out _ HH.out).mono ?_;rintro e w2 ⟨rfl,hb2,hm2⟩;obtain⟨c0,f0,h3⟩:=HC.out _ hb2;have H3:=Lib.hid h3;have hmm:Mod [ga,ha,hs] w (w2.setCell ⟨hs,k*4,none⟩ (.int .i64 p')):=hm2.setCell (by simp) _;clear hb2 hm2 h3;go_wp2_with fail;go_ret;exact⟨rfl,H3.out,hmm⟩
 ·rw[beq_eq_false_iff_ne.2 ht]
  have e9:=ibeq_no ht;clear ht;go_enter Tryz.func375,Tryz.ntmps375;go_wp2_with fail;refine(HS.out).mono ?_;rintro e wx ⟨rfl,hwx⟩;obtain rfl:=hwx.symm;go_wp2_with fail;refine(HF.out _ HH.out).mono ?_;rintro e w2 ⟨rfl,hb2,hm2⟩;obtain⟨c0,f0,h3⟩:=HC.out _ hb2;have H3:=Lib.hid h3;have hmm:Mod [ga,ha,hs] w (w2.setCell ⟨hs,k*4,none⟩ (.int .i64 p')):=hm2.setCell (by simp) _;clear hb2 hm2 h3;go_wp2_with fail;go_ret;exact⟨rfl,H3.out,hmm⟩
set_option maxRecDepth 100000 in
theorem goes_out (k:Nat)(hk:k<sp.length)(tO p':Int)(σ':Ar)(sp1 sp2:List Sp)(hk1:k<sp1.length)(hl1:sp1.length=sp.length)(HF:∀W,LkAt W gl ga ha hs P σ sp→Calls Tryz.prog 377 #[.pointer (some ⟨gl,0,none⟩),.pointer (some ⟨hs,k*4,none⟩),.int .i64 ((k:Int)+1)] W fun e w'=>e= .returned (.int .i64 p')∧LkAt w' gl ga ha hs P σ' sp1∧Mod [ga,ha,hs] W w')
 (h2:sp1.set k {sp1[k]with pc:=p'}=sp2):
 Calls Tryz.prog 375 #[.pointer (some ⟨gl,0,none⟩),.int .i64 (k:Int),.int .i64 tO,.func (.func 377) #[.pointer (some ⟨gl,0,none⟩)] #[]] w fun e w'=>e= .returned (.bool (p'==tO))∧LkAt w' gl ga ha hs P σ' sp2∧Mod [ga,ha,hs] w w':=by
 have HS:=Lib.hid (spot_in_lk gl ga ha hs P σ sp w H k hk);have hl32:=H.2.2.1;have e1:IntKind.i64.wrap ((k:Int)+1)=(k:Int)+1:=IntWalk.i64_in _ (by omega)
 have HC:∀W,LkAt W gl ga ha hs P σ' sp1→W.cell? ⟨hs,k*4,none⟩=some (.int .i64 sp1[k].pc)∧W.frozen? ⟨hs,k*4,none⟩=false∧LkAt (W.setCell ⟨hs,k*4,none⟩ (.int .i64 p')) gl ga ha hs P σ' sp2:=
  fun W K=>⟨(K.2.1.cells k hk1).1,(K.2.1.cells k hk1).2.2.2.2 (k*4),by rw[←h2];exact K.spots (K.2.1.setPc k hk1 p') ((Mod.refl [hs] W).setCell (by simp) _) (by rw[List.length_set])⟩
 replace HC:=Lib.hid HC;replace HF:=Lib.hid HF;have HH:=Lib.hid H;generalize sp1[k].pc=xo at*;clear H h2 hl1;by_cases ht:p'=tO
 ·rw[beq_iff_eq.2 ht]
  have e9:=ibeq ht;clear ht;go_enter Tryz.func375,Tryz.ntmps375;go_wp2_with fail;refine(HS.out).mono ?_;rintro e wx ⟨rfl,hwx⟩;obtain rfl:=hwx.symm;go_wp2_with fail;refine(HF.out _ HH.out).mono ?_;rintro e w2 ⟨rfl,hb2,hm2⟩;obtain⟨c0,f0,h3⟩:=HC.out _ hb2;have H3:=Lib.hid h3;have hmm:Mod [ga,ha,hs] w (w2.setCell ⟨hs,k*4,none⟩ (.int .i64 p')):=hm2.setCell (by simp) _;clear hb2 hm2 h3;go_wp2_with fail;go_ret;exact⟨rfl,H3.out,hmm⟩
 ·rw[beq_eq_false_iff_ne.2 ht]
  have e9:=ibeq_no ht;clear ht;go_enter Tryz.func375,Tryz.ntmps375;go_wp2_with fail;refine(HS.out).mono ?_;rintro e wx ⟨rfl,hwx⟩;obtain rfl:=hwx.symm;go_wp2_with fail;refine(HF.out _ HH.out).mono ?_;rintro e w2 ⟨rfl,hb2,hm2⟩;obtain⟨c0,f0,h3⟩:=HC.out _ hb2;have H3:=Lib.hid h3;have hmm:Mod [ga,ha,hs] w (w2.setCell ⟨hs,k*4,none⟩ (.int .i64 p')):=hm2.setCell (by simp) _;clear hb2 hm2 h3;go_wp2_with fail;go_ret;exact⟨rfl,H3.out,hmm⟩
set_option maxRecDepth 100000 in
theorem step_in (k:Nat)(hk:k<sp.length)(p:Int)(hp:sp[k].pc=p)(h1:0<p)(h2:p<10)(σ':Ar)(sp2:List Sp)(b:Bool)(HG:∀W,LkAt W gl ga ha hs P σ sp→Calls Tryz.prog 375 #[.pointer (some ⟨gl,0,none⟩),.int .i64 (k:Int),.int .i64 10,.func (.func 376) #[.pointer (some ⟨gl,0,none⟩)] #[]] W fun e w'=>e= .returned (.bool b)∧LkAt w' gl ga ha hs P σ' sp2∧Mod [ga,ha,hs] W w'):
 Calls Tryz.prog 371 #[.pointer (some ⟨gl,0,none⟩),.int .i64 (k:Int)] w fun e w'=>e= .returned (.bool b)∧LkAt w' gl ga ha hs P σ' sp2∧Mod [ga,ha,hs] w w':=by
 have HSp:=Spot_lk gl ga ha hs P σ sp w H (k:Int);rw[spOf_in hk,hp]at HSp;replace HSp:=Lib.hid HSp;have hmf:∀(fn:Fn) (first cap:Array Value) (w:World),(Instr.makeFunc fn first cap).run Tryz.prog w= .ok (.func fn first cap) w:=fun _ _ _ _=>rfl;have q1:=fun a b c d W=>sfld0 a b c d W;replace HG:=Lib.hid HG;have HH:=Lib.hid H;generalize sp[k].a=xa at*;generalize sp[k].b=xb at*;generalize sp[k].c=xc at*;clear H hp;go_enter Tryz.func371,Tryz.ntmps371;go_wp2_with fail;refine HSp.out.mono ?_;rintro e w1 ⟨rfl,hb1⟩;have H1:=Lib.hid (HH.out.same hb1);have hm1:Mod [ga,ha,hs] w w1:=Mod.of_below hb1;clear hb1;go_wp2_with fail;refine(HG.out _ H1.out).mono ?_;rintro e w2 ⟨rfl,h3,hm2⟩;have H3:=Lib.hid h3;have hmm:=hm1.trans hm2;clear h3 hm2;go_wp2_with fail;go_ret;exact⟨rfl,H3.out,hmm⟩
set_option maxRecDepth 100000 in
theorem step_out (k:Nat)(hk:k<sp.length)(p:Int)(hp:sp[k].pc=p)(h1:10<p)(h2:p<100)(σ':Ar)(sp2:List Sp)(b:Bool)(HG:∀W,LkAt W gl ga ha hs P σ sp→Calls Tryz.prog 375 #[.pointer (some ⟨gl,0,none⟩),.int .i64 (k:Int),.int .i64 0,.func (.func 377) #[.pointer (some ⟨gl,0,none⟩)] #[]] W fun e w'=>e= .returned (.bool b)∧LkAt w' gl ga ha hs P σ' sp2∧Mod [ga,ha,hs] W w'):
 Calls Tryz.prog 371 #[.pointer (some ⟨gl,0,none⟩),.int .i64 (k:Int)] w fun e w'=>e= .returned (.bool b)∧LkAt w' gl ga ha hs P σ' sp2∧Mod [ga,ha,hs] w w':=by
 have HSp:=Spot_lk gl ga ha hs P σ sp w H (k:Int);rw[spOf_in hk,hp]at HSp;replace HSp:=Lib.hid HSp;have hmf:∀(fn:Fn) (first cap:Array Value) (w:World),(Instr.makeFunc fn first cap).run Tryz.prog w= .ok (.func fn first cap) w:=fun _ _ _ _=>rfl;have q1:=fun a b c d W=>sfld0 a b c d W;replace HG:=Lib.hid HG;have HH:=Lib.hid H;generalize sp[k].a=xa at*;generalize sp[k].b=xb at*;generalize sp[k].c=xc at*;clear H hp;go_enter Tryz.func371,Tryz.ntmps371;go_wp2_with fail;refine HSp.out.mono ?_;rintro e w1 ⟨rfl,hb1⟩;have H1:=Lib.hid (HH.out.same hb1);have hm1:Mod [ga,ha,hs] w w1:=Mod.of_below hb1;clear hb1;go_wp2_with fail;refine(HG.out _ H1.out).mono ?_;rintro e w2 ⟨rfl,h3,hm2⟩;have H3:=Lib.hid h3;have hmm:=hm1.trans hm2;clear h3 hm2;go_wp2_with fail;go_ret;exact⟨rfl,H3.out,hmm⟩
set_option maxRecDepth 100000 in
theorem step_none (i:Int)(h:(spOf sp i).pc=0∨(spOf sp i).pc=10):Calls Tryz.prog 371 #[.pointer (some ⟨gl,0,none⟩),.int .i64 i] w fun e w'=>e= .returned (.bool false)∧LkAt w' gl ga ha hs P σ sp∧Mod [ga,ha,hs] w w':=by
 have HSp:=Spot_lk gl ga ha hs P σ sp w H i;have q1:=fun a b c d W=>sfld0 a b c d W;have HH:=Lib.hid H;generalize spOf sp i=s at*;obtain⟨yp,ya,yb,yc⟩:=s;replace HSp:=Lib.hid HSp;clear H;rcases h with h|h
 ·simp only at h
  subst h;go_enter Tryz.func371,Tryz.ntmps371;go_wp2_with fail;refine HSp.out.mono ?_;rintro e w1 ⟨rfl,hb1⟩;go_wp2_with fail;go_ret;exact⟨rfl,HH.out.same hb1,Mod.of_below hb1⟩
 ·simp only at h
  subst h;go_enter Tryz.func371,Tryz.ntmps371;go_wp2_with fail;refine HSp.out.mono ?_;rintro e w1 ⟨rfl,hb1⟩;go_wp2_with fail;go_ret;exact⟨rfl,HH.out.same hb1,Mod.of_below hb1⟩
theorem step_lk (hN:Num P σ sp)(i:Int):Calls Tryz.prog 371 #[.pointer (some ⟨gl,0,none⟩),.int .i64 i] w fun e w'=>e= .returned (.bool (stepP P σ sp i).1)∧LkAt w' gl ga ha hs P (stepP P σ sp i).2.1 (stepP P σ sp i).2.2∧Mod [ga,ha,hs] w w':=by
 by_cases h:(spOf sp i).pc=0∨(spOf sp i).pc=10
 ·rw[step_no h]
  exact step_none gl ga ha hs P σ sp w H i h
 ·obtain⟨i0,i1⟩:=spOf_range (sp:=sp) (i:=i) (by omega)
  obtain⟨k,rfl⟩:=Int.eq_ofNat_of_zero_le i0;have hk:k<sp.length:=by omega
  have hs1:=spOf_in hk;have hpo:=(hN.2.1 k hk).2;have hka:∀v:Int,k<(sp.set k {sp[k]with a:=v}).length:=fun v=>by rw[List.length_set];exact hk
  have hla:∀v:Int,(sp.set k {sp[k]with a:=v}).length=sp.length:=fun v=>List.length_set;rw[hs1]at h;rcases hpo with p|p|p|p|p|p|p|p|p|p|p
  ·exact absurd (.inl p) h
  ·rw[step_1 (by rw[hs1];exact p),hs1,Int.toNat_natCast]
   exact step_in gl ga ha hs P σ sp w H k hk 1 p (by decide) (by decide) _ _ false (fun W K=>goes_in gl ga ha hs P σ sp W K k hk 10 2 _ sp _ hk rfl (fun W K=>in_one gl ga ha hs P σ sp W K hN k hk p) rfl)
  ·rw[step_2 (by rw[hs1];exact p),hs1,Int.toNat_natCast]
   exact step_in gl ga ha hs P σ sp w H k hk 2 p (by decide) (by decide) _ _ false (fun W K=>goes_in gl ga ha hs P σ sp W K k hk 10 3 _ sp _ hk rfl (fun W K=>in_two gl ga ha hs P σ sp W K hN k hk p) rfl)
  ·rw[step_3 (by rw[hs1];exact p),hs1,Int.toNat_natCast]
   have hb:(σ.get P.tail==0)=((if σ.get P.tail=0 then(10:Int)else 4)==10):=(ite_beq _ _ _ _ rfl (by decide)).symm;rw[hb];exact step_in gl ga ha hs P σ sp w H k hk 3 p (by decide) (by decide) _ _ _ (fun W K=>goes_in gl ga ha hs P σ sp W K k hk 10 _ _ _ _ (hka _) (hla _) (fun W K=>in_three gl ga ha hs P σ sp W K hN k hk p _ rfl) (setaP sp k hk _ _ (hka _)))
  ·rw[step_4 (by rw[hs1];exact p),hs1,Int.toNat_natCast]
   exact step_in gl ga ha hs P σ sp w H k hk 4 p (by decide) (by decide) _ _ false (fun W K=>goes_in gl ga ha hs P σ sp W K k hk 10 5 _ sp _ hk rfl (fun W K=>in_four gl ga ha hs P σ sp W K hN k hk p) rfl)
  ·rw[step_5 (by rw[hs1];exact p),hs1,Int.toNat_natCast]
   have hb:(σ.get (wt P ((k:Int)+1))==0)=((if σ.get (wt P ((k:Int)+1))=0 then(10:Int)else 5)==10):=(ite_beq _ _ _ _ rfl (by decide)).symm;rw[hb];exact step_in gl ga ha hs P σ sp w H k hk 5 p (by decide) (by decide) _ _ _ (fun W K=>goes_in gl ga ha hs P σ sp W K k hk 10 _ _ sp _ hk rfl (fun W K=>in_five gl ga ha hs P σ sp W K hN k hk p) rfl)
  ·exact absurd (.inr p) h
  ·have hs2:=step_look (P:=P) (σ:=σ) (sp:=sp) (i:=(k:Int)) (.inl (by rw[hs1];exact p))
   rw[hs2,hs1,Int.toNat_natCast];simp only[if_pos p];have hb:false=((if σ.get (nx P ((k:Int)+1))=0 then(12:Int)else 14)==0):=by split<;>rfl
   have key:=step_out gl ga ha hs P σ sp w H k hk 11 p (by decide) (by decide) _ _ _ (fun W K=>goes_out gl ga ha hs P σ sp W K k hk 0 _ _ _ _ (hka _) (hla _) (fun W K=>out_11 gl ga ha hs P σ sp W K hN k hk p _ rfl) (setaP sp k hk _ _ (hka _)));rw[←hb]at key;exact key
  ·rw[step_12 (by rw[hs1];exact p),hs1,Int.toNat_natCast]
   generalize hbb:(σ.has P.tail&&(σ.get P.tail==(k:Int)+1))=bb;have hb:bb=((if bb=true then(0:Int)else 13)==0):=by cases bb<;>rfl
   have HO:=fun W K=>out_12 gl ga ha hs P σ sp W K hN k hk p;rw[hbb]at HO;have key:=step_out gl ga ha hs P σ sp w H k hk 12 p (by decide) (by decide) _ _ _ (fun W K=>goes_out gl ga ha hs P σ sp W K k hk 0 _ _ sp _ hk rfl (HO) rfl);rw[←hb]at key;exact key
  ·have hs2:=step_look (P:=P) (σ:=σ) (sp:=sp) (i:=(k:Int)) (.inr (by rw[hs1];exact p))
   rw[hs2,hs1,Int.toNat_natCast];simp only[if_neg (show¬sp[k].pc=11 by omega)];have hb:false=((if σ.get (nx P ((k:Int)+1))=0 then(13:Int)else 14)==0):=by split<;>rfl
   have key:=step_out gl ga ha hs P σ sp w H k hk 13 p (by decide) (by decide) _ _ _ (fun W K=>goes_out gl ga ha hs P σ sp W K k hk 0 _ _ _ _ (hka _) (hla _) (fun W K=>out_13 gl ga ha hs P σ sp W K hN k hk p _ rfl) (setaP sp k hk _ _ (hka _)));rw[←hb]at key;exact key
  ·rw[step_14 (by rw[hs1];exact p),hs1,Int.toNat_natCast]
   exact step_out gl ga ha hs P σ sp w H k hk 14 p (by decide) (by decide) _ _ true (fun W K=>goes_out gl ga ha hs P σ sp W K k hk 0 0 _ sp _ hk rfl (fun W K=>out_14 gl ga ha hs P σ sp W K hN k hk p) rfl)
set_option maxHeartbeats 4000000 in
set_option maxRecDepth 100000 in
theorem alone_lk (hN:Num P σ sp)(i:Int):Calls Tryz.prog 366 #[.pointer (some ⟨gl,0,none⟩),.int .i64 i] w fun e w'=>e= .returned (.bool (aloneP P σ sp i).1)∧LkAt w' gl ga ha hs P (aloneP P σ sp i).2 sp∧Mod [ga,ha] w w':=by
 have q1:=fun a b c d W=>sfld0 a b c d W;by_cases hp:(spOf sp i).pc=10
 ·have e:aloneP P σ sp i=(σ.get (nx P (i+1))==0,σ.op 1 (nx P (i+1)) false 0):=by unfold aloneP;rw[if_pos hp]
  rw[e];clear e;obtain⟨i0,i1⟩:=spOf_range (sp:=sp) (i:=i) (by omega);have hl32:=H.2.2.1;have HX:=Lib.hid (fun W (K:LkAt W gl ga ha hs P σ sp)=>next_lk gl ga ha hs P σ sp W K hN.1 (i+1) (by omega));have HSt:=Lib.hid (fun W (K:LkAt W gl ga ha hs P σ sp)=>load_any ga ha σ W K.1 hN.2.2 (nx P (i+1)));obtain⟨d1,d2,d3,d4,d5⟩:=H.2.2.2.2;have HK7:=Lib.hid (H.drewN 1);obtain⟨⟨cc,q0,_,_⟩,_⟩:=H.heads;have HSp:=Spot_lk gl ga ha hs P σ sp (w.drewN 1) HK7.out i;rw[hp]at HSp;replace HSp:=Lib.hid HSp;have e3:IntKind.i64.wrap (i+1)=i+1:=IntWalk.i64_in _ (by omega);generalize spOf sp i=s at*;generalize σ.op 1 (nx P (i+1)) false 0=σ2 at*;generalize nx P (i+1)=p at*;generalize σ.get p=x at*;have hm1:Mod [ga,ha] w (w.drewN 1):=(Mod.refl _ _).drewN 1;clear H hN hp;go_enter Tryz.func366,Tryz.ntmps366;go_wp2_with fail;refine wp_region_held_drew (S:=fun V=>V.cell? ⟨gl,0,none⟩=some (.pointer (some ⟨ga,0,none⟩))) (by kernel_rfl) q0 (fun hHeld=> ?_);refine take_to 0 (some 5) (v:= ?_) rfl rfl (by kernel_rfl) (by kernel_rfl) (by kernel_rfl) (fun _ _ _ h=>h) (Or.inl ⟨by rfl,?_⟩) (by first|trivial|assumption) ?_;rotate_left;focus(intro w hSw;(try dsimp only at hSw);go_simp;(try with_reducible rfl))
  simp only[Act.put,List.setIfInBounds_toArray,List.set_cons_zero,List.set_cons_succ];refine take_to 1 (some 6) (v:= ?_) rfl rfl (by kernel_rfl) (by kernel_rfl) (by kernel_rfl) (fun _ _ _ h=>h) (Or.inl ⟨by rfl,?_⟩) (by first|trivial|assumption) ?_;rotate_left;focus(intro w hSw;(try dsimp only at hSw);go_simp;(try with_reducible rfl))
  simp only[Act.put,List.setIfInBounds_toArray,List.set_cons_zero,List.set_cons_succ];refine wpAnyH_ready (rs:=[2]) (by kernel_rfl) (by simp) ?_;refine AllReadyH.cons rfl (fun K hK=> ?_) AllReadyH.nil;go_simp;refine HSp.out.mono ?_;rintro e w2 ⟨rfl,hb2⟩;have H2:=Lib.hid (HK7.out.same hb2);have hm2:Mod [ga,ha] w w2:=hm1.trans (Mod.of_below hb2);go_simp;refine hK.out _ _ (keep1 hb2 hHeld) (fun hHeld=> ?_);clear hb2;refine take_to 3 (some 8) (v:= ?_) rfl rfl (by kernel_rfl) (by kernel_rfl) (by kernel_rfl) (fun _ _ _ h=>h) (Or.inl ⟨by rfl,?_⟩) (by first|trivial|assumption) ?_;rotate_left;focus(intro w hSw;(try dsimp only at hSw);go_simp;(try with_reducible rfl))
  simp only[Act.put,List.setIfInBounds_toArray,List.set_cons_zero,List.set_cons_succ];refine take_to 4 (some 9) (v:= ?_) rfl rfl (by kernel_rfl) (by kernel_rfl) (by kernel_rfl) (fun _ _ _ h=>h) (Or.inl ⟨by rfl,?_⟩) (by first|trivial|assumption) ?_;rotate_left;focus(intro w hSw;(try dsimp only at hSw);go_simp;(try with_reducible rfl))
  simp only[Act.put,List.setIfInBounds_toArray,List.set_cons_zero,List.set_cons_succ];refine take_to 5 (some 10) (v:= ?_) rfl rfl (by kernel_rfl) (by kernel_rfl) (by kernel_rfl) (fun _ _ _ h=>h) (Or.inl ⟨by rfl,?_⟩) (by first|trivial|assumption) ?_;rotate_left;focus(intro w hSw;(try dsimp only at hSw);go_simp;(try with_reducible rfl))
  simp only[Act.put,List.setIfInBounds_toArray,List.set_cons_zero,List.set_cons_succ];refine take_to 6 (some 11) (v:= ?_) rfl rfl (by kernel_rfl) (by kernel_rfl) (by kernel_rfl) (fun _ _ _ h=>h) (Or.inl ⟨by rfl,?_⟩) (by first|trivial|assumption) ?_;rotate_left;focus(intro w hSw;(try dsimp only at hSw);go_simp;(try with_reducible rfl))
  simp only[Act.put,List.setIfInBounds_toArray,List.set_cons_zero,List.set_cons_succ];refine take_to 7 (some 12) (v:= ?_) rfl rfl (by kernel_rfl) (by kernel_rfl) (by kernel_rfl) (fun _ _ _ h=>h) (Or.inl ⟨by rfl,?_⟩) (by first|trivial|assumption) ?_;rotate_left;focus(intro w hSw;(try dsimp only at hSw);go_simp;(try with_reducible rfl))
  simp only[Act.put,List.setIfInBounds_toArray,List.set_cons_zero,List.set_cons_succ];refine take_to 8 (some 13) (v:= ?_) rfl rfl (by kernel_rfl) (by kernel_rfl) (by kernel_rfl) (fun _ _ _ h=>h) (Or.inl ⟨by rfl,?_⟩) (by first|trivial|assumption) ?_;rotate_left;focus(intro w hSw;(try dsimp only at hSw);go_simp;(try with_reducible rfl))
  simp only[Act.put,List.setIfInBounds_toArray,List.set_cons_zero,List.set_cons_succ];refine take_to 9 (some 14) (v:= ?_) rfl rfl (by kernel_rfl) (by kernel_rfl) (by kernel_rfl) (fun _ _ _ h=>h) (Or.inl ⟨by rfl,?_⟩) (by first|trivial|assumption) ?_;rotate_left;focus(intro w hSw;(try dsimp only at hSw);go_simp;(try with_reducible rfl))
  simp only[Act.put,List.setIfInBounds_toArray,List.set_cons_zero,List.set_cons_succ];refine take_to 10 (some 15) (v:= ?_) rfl rfl (by kernel_rfl) (by kernel_rfl) (by kernel_rfl) (fun _ _ _ h=>h) (Or.inl ⟨by rfl,?_⟩) (by first|trivial|assumption) ?_;rotate_left;focus(intro w hSw;(try dsimp only at hSw);go_simp;(try with_reducible rfl))
  simp only[Act.put,List.setIfInBounds_toArray,List.set_cons_zero,List.set_cons_succ];refine take_to 11 (some 16) (v:= ?_) rfl rfl (by kernel_rfl) (by kernel_rfl) (by kernel_rfl) (fun _ _ _ h=>h) (Or.inl ⟨by rfl,?_⟩) (by first|trivial|assumption) ?_;rotate_left;focus(intro w hSw;(try dsimp only at hSw);go_simp;(try with_reducible rfl))
  simp only[Act.put,List.setIfInBounds_toArray,List.set_cons_zero,List.set_cons_succ];refine take_to 12 (some 17) (v:= ?_) rfl rfl (by kernel_rfl) (by kernel_rfl) (by kernel_rfl) (fun _ _ _ h=>h) (Or.inl ⟨by rfl,?_⟩) (by first|trivial|assumption) ?_;rotate_left;focus(intro w hSw;(try dsimp only at hSw);go_simp;(try with_reducible rfl))
  simp only[Act.put,List.setIfInBounds_toArray,List.set_cons_zero,List.set_cons_succ];refine wpAnyH_ready (rs:=[13]) (by kernel_rfl) (by simp) ?_;refine AllReadyH.cons rfl (fun K hK=> ?_) AllReadyH.nil;go_simp;refine(HX.out _ H2.out).mono ?_;rintro e wx ⟨rfl,hwx⟩;obtain rfl:=hwx.symm;go_simp;refine hK.out _ _ hHeld (fun hHeld=> ?_);refine wpAnyH_ready (rs:=[14]) (by kernel_rfl) (by simp) ?_;refine AllReadyH.cons rfl (fun K hK=> ?_) AllReadyH.nil;go_simp;refine(HSt.out _ H2.out).mono ?_;rintro e w3 ⟨rfl,ha3,hm3⟩;have H3:=Lib.hid (H2.out.arena ha3 hm3);go_simp;refine hK.out _ _ (keepM hm3 hHeld (by simp;omega)) (fun hHeld=> ?_);refine take_to 15 (some 20) (v:= ?_) rfl rfl (by kernel_rfl) (by kernel_rfl) (by kernel_rfl) (fun _ _ _ h=>h) (Or.inl ⟨by rfl,?_⟩) (by first|trivial|assumption) ?_;rotate_left;focus(intro w hSw;(try dsimp only at hSw);go_simp;(try with_reducible rfl))
  simp only[Act.put,List.setIfInBounds_toArray,List.set_cons_zero,List.set_cons_succ];refine take_to 16 (some 21) (v:= ?_) rfl rfl (by kernel_rfl) (by kernel_rfl) (by kernel_rfl) (fun _ _ _ h=>h) (Or.inl ⟨by rfl,?_⟩) (by first|trivial|assumption) ?_;rotate_left;focus(intro w hSw;(try dsimp only at hSw);go_simp;(try with_reducible rfl))
  simp only[Act.put,List.setIfInBounds_toArray,List.set_cons_zero,List.set_cons_succ];refine take_to 17 (some 4) (v:= ?_) rfl rfl (by kernel_rfl) (by kernel_rfl) (by kernel_rfl) (fun _ _ _ h=>h) (Or.inl ⟨by rfl,?_⟩) (by first|trivial|assumption) ?_;rotate_left;focus(intro w hSw;(try dsimp only at hSw);go_simp;(try with_reducible rfl))
  simp only[Act.put,List.setIfInBounds_toArray,List.set_cons_zero,List.set_cons_succ];refine wpAnyH_done (by kernel_rfl) ?_ _;have hm4:=hm2.trans hm3;clear ha3 hm3;go_wp2_with fail;go_ret;exact⟨rfl,H3.out,hm4⟩
 ·have e:aloneP P σ sp i=(false,σ):=by unfold aloneP;rw[if_neg hp]
  rw[e];clear e;have HK7:=Lib.hid (H.drewN 1);have HSp:=Spot_lk gl ga ha hs P σ sp (w.drewN 1) HK7.out i;have hm1:Mod [ga,ha] w (w.drewN 1):=(Mod.refl _ _).drewN 1;have e9:=ibeq_no hp;generalize spOf sp i=s at*;obtain⟨xp,xa,xb,xc⟩:=s;replace HSp:=Lib.hid HSp;clear H hN hp;go_enter Tryz.func366,Tryz.ntmps366;go_wp2_with fail;refine wp_region_held_drew (S:=fun _=>True) (by kernel_rfl) trivial (fun hHeld=> ?_);refine take_to 0 (some 5) (v:= ?_) rfl rfl (by kernel_rfl) (by kernel_rfl) (by kernel_rfl) (fun _ _ _ h=>h) (Or.inl ⟨by rfl,?_⟩) (by first|trivial|assumption) ?_;rotate_left;focus(intro w hSw;(try dsimp only at hSw);go_simp;(try with_reducible rfl))
  simp only[Act.put,List.setIfInBounds_toArray,List.set_cons_zero,List.set_cons_succ];refine take_to 1 (some 6) (v:= ?_) rfl rfl (by kernel_rfl) (by kernel_rfl) (by kernel_rfl) (fun _ _ _ h=>h) (Or.inl ⟨by rfl,?_⟩) (by first|trivial|assumption) ?_;rotate_left;focus(intro w hSw;(try dsimp only at hSw);go_simp;(try with_reducible rfl))
  simp only[Act.put,List.setIfInBounds_toArray,List.set_cons_zero,List.set_cons_succ];refine wpAnyH_ready (rs:=[2]) (by kernel_rfl) (by simp) ?_;refine AllReadyH.cons rfl (fun K hK=> ?_) AllReadyH.nil;go_simp;refine HSp.out.mono ?_;rintro e w2 ⟨rfl,hb2⟩;have H2:=Lib.hid (HK7.out.same hb2);have hm2:Mod [ga,ha] w w2:=hm1.trans (Mod.of_below hb2);go_simp;refine hK.out _ _ trivial (fun hHeld=> ?_);clear hb2;refine take_to 3 (some 8) (v:= ?_) rfl rfl (by kernel_rfl) (by kernel_rfl) (by kernel_rfl) (fun _ _ _ h=>h) (Or.inl ⟨by rfl,?_⟩) (by first|trivial|assumption) ?_;rotate_left;focus(intro w hSw;(try dsimp only at hSw);go_simp;(try with_reducible rfl))
  simp only[Act.put,List.setIfInBounds_toArray,List.set_cons_zero,List.set_cons_succ];refine take_to 4 (some 9) (v:= ?_) rfl rfl (by kernel_rfl) (by kernel_rfl) (by kernel_rfl) (fun _ _ _ h=>h) (Or.inl ⟨by rfl,?_⟩) (by first|trivial|assumption) ?_;rotate_left;focus(intro w hSw;(try dsimp only at hSw);go_simp;(try with_reducible rfl))
  simp only[Act.put,List.setIfInBounds_toArray,List.set_cons_zero,List.set_cons_succ];refine take_to 5 (some 10) (v:= ?_) rfl rfl (by kernel_rfl) (by kernel_rfl) (by kernel_rfl) (fun _ _ _ h=>h) (Or.inl ⟨by rfl,?_⟩) (by first|trivial|assumption) ?_;rotate_left;focus(intro w hSw;(try dsimp only at hSw);go_simp;(try with_reducible rfl))
  simp only[Act.put,List.setIfInBounds_toArray,List.set_cons_zero,List.set_cons_succ];refine take_to 6 (some 11) (v:=undef) rfl rfl (by kernel_rfl) (by kernel_rfl) (by kernel_rfl) (fun _ _ _ h=>h) (Or.inr ⟨by rfl,rfl⟩) (by first|trivial|assumption) ?_;simp only[Act.put,List.setIfInBounds_toArray,List.set_cons_zero,List.set_cons_succ];refine take_to 7 (some 12) (v:=undef) rfl rfl (by kernel_rfl) (by kernel_rfl) (by kernel_rfl) (fun _ _ _ h=>h) (Or.inr ⟨by rfl,rfl⟩) (by first|trivial|assumption) ?_;simp only[Act.put,List.setIfInBounds_toArray,List.set_cons_zero,List.set_cons_succ];refine take_to 8 (some 13) (v:=undef) rfl rfl (by kernel_rfl) (by kernel_rfl) (by kernel_rfl) (fun _ _ _ h=>h) (Or.inr ⟨by rfl,rfl⟩) (by first|trivial|assumption) ?_;simp only[Act.put,List.setIfInBounds_toArray,List.set_cons_zero,List.set_cons_succ];refine take_to 9 (some 14) (v:=undef) rfl rfl (by kernel_rfl) (by kernel_rfl) (by kernel_rfl) (fun _ _ _ h=>h) (Or.inr ⟨by rfl,rfl⟩) (by first|trivial|assumption) ?_;simp only[Act.put,List.setIfInBounds_toArray,List.set_cons_zero,List.set_cons_succ];refine take_to 10 (some 15) (v:=undef) rfl rfl (by kernel_rfl) (by kernel_rfl) (by kernel_rfl) (fun _ _ _ h=>h) (Or.inr ⟨by rfl,rfl⟩) (by first|trivial|assumption) ?_;simp only[Act.put,List.setIfInBounds_toArray,List.set_cons_zero,List.set_cons_succ];refine take_to 11 (some 16) (v:=undef) rfl rfl (by kernel_rfl) (by kernel_rfl) (by kernel_rfl) (fun _ _ _ h=>h) (Or.inr ⟨by rfl,rfl⟩) (by first|trivial|assumption) ?_;simp only[Act.put,List.setIfInBounds_toArray,List.set_cons_zero,List.set_cons_succ];refine take_to 12 (some 17) (v:=undef) rfl rfl (by kernel_rfl) (by kernel_rfl) (by kernel_rfl) (fun _ _ _ h=>h) (Or.inr ⟨by rfl,rfl⟩) (by first|trivial|assumption) ?_;simp only[Act.put,List.setIfInBounds_toArray,List.set_cons_zero,List.set_cons_succ];refine take_to 13 (some 18) (v:=undef) rfl rfl (by kernel_rfl) (by kernel_rfl) (by kernel_rfl) (fun _ _ _ h=>h) (Or.inr ⟨by rfl,rfl⟩) (by first|trivial|assumption) ?_;simp only[Act.put,List.setIfInBounds_toArray,List.set_cons_zero,List.set_cons_succ];refine take_to 14 (some 19) (v:=undef) rfl rfl (by kernel_rfl) (by kernel_rfl) (by kernel_rfl) (fun _ _ _ h=>h) (Or.inr ⟨by rfl,rfl⟩) (by first|trivial|assumption) ?_;simp only[Act.put,List.setIfInBounds_toArray,List.set_cons_zero,List.set_cons_succ];refine take_to 15 (some 20) (v:=undef) rfl rfl (by kernel_rfl) (by kernel_rfl) (by kernel_rfl) (fun _ _ _ h=>h) (Or.inr ⟨by rfl,rfl⟩) (by first|trivial|assumption) ?_;simp only[Act.put,List.setIfInBounds_toArray,List.set_cons_zero,List.set_cons_succ];refine take_to 16 (some 21) (v:= ?_) rfl rfl (by kernel_rfl) (by kernel_rfl) (by kernel_rfl) (fun _ _ _ h=>h) (Or.inl ⟨by rfl,?_⟩) (by first|trivial|assumption) ?_;rotate_left;focus(intro w hSw;(try dsimp only at hSw);go_simp;(try with_reducible rfl))
  simp only[Act.put,List.setIfInBounds_toArray,List.set_cons_zero,List.set_cons_succ];refine take_to 17 (some 4) (v:= ?_) rfl rfl (by kernel_rfl) (by kernel_rfl) (by kernel_rfl) (fun _ _ _ h=>h) (Or.inl ⟨by rfl,?_⟩) (by first|trivial|assumption) ?_;rotate_left;focus(intro w hSw;(try dsimp only at hSw);go_simp;(try with_reducible rfl))
  simp only[Act.put,List.setIfInBounds_toArray,List.set_cons_zero,List.set_cons_succ];refine wpAnyH_done (by kernel_rfl) ?_ _;go_wp2_with fail;go_ret;exact⟨rfl,H2.out,hm2⟩
end
end Go.Proofs.YtfmiioddhpkdkaaGreat.Mc
namespace Go.Proofs.YtfmiioddhpkdkaaGreat.Mc
open Go.RowKit Go.Proofs.YtfmiioddhpkdkaaGreat.Ara Go.Proofs.YtfmiioddhpkdkaaGreat.Lok
end Go.Proofs.YtfmiioddhpkdkaaGreat.Mc
namespace Go.Proofs.YtfmiioddhpkdkaaGreat.Mc
open Go.RowKit Go.Proofs.YtfmiioddhpkdkaaGreat.Ara Go.Proofs.YtfmiioddhpkdkaaGreat.Lok
theorem infoSp:(Tryz.prog.info? 134).map (fun i=>(i.zero,i.size,i.bytes))=some (some (.agg #[.int .i64 0,.int .i64 0,.int .i64 0,.int .i64 0]),4,32):=by kernel_rfl
def zeroS (n:Nat):List Sp:=List.replicate n sp0
theorem zeroS_flat (n:Nat):((List.replicate n ((Value.agg #[.int .i64 0,.int .i64 0,.int .i64 0,.int .i64 0]).cells.toList)).flatten).toArray=((zeroS n).flatMap decSp).toArray:=by
 congr 1
 induction n with
 |zero=>rfl
 |succ n ih=>rw[List.replicate_succ,List.flatten_cons,ih,zeroS,zeroS,List.replicate_succ,List.flatMap_cons];rfl
theorem make_spots (n:Nat)(h:n≤65536)(W:World):(Instr.makeSlice 173 (.int .i64 (n:Int)) (.int .i64 (n:Int))).run Tryz.prog W= .ok (.slice (some ⟨W.heap.size,0,none⟩) n n) (W.alloc (.cells ((zeroS n).flatMap decSp).toArray 134)):=by
 rw[run_make_rows (P:=Tryz.prog) 173 134 (.agg #[.int .i64 0,.int .i64 0,.int .i64 0,.int .i64 0]) 4 32 Tryz.underlying173 infoSp rfl .i64 .i64 n (by omega) (by omega) W,zeroS_flat]
theorem spAt_new (W:World)(n:Nat):SpAt (W.alloc (.cells ((zeroS n).flatMap decSp).toArray 134)) W.heap.size (zeroS n):=
 ⟨_,blk_new _ _,by rw[List.take_of_length_le (by rw[flat_len decSp_len];omega)]⟩
set_option maxHeartbeats 4000000 in
set_option maxRecDepth 100000 in
theorem new_lk (ga ha:Nat)(σ σ1:Ar)(w:World)(H:ArAt w ga ha σ)(hh:ha<w.heap.size)(n:Nat)(n1:1≤n)(n2:n≤32)(next:Int)(x1:1≤next)(x2:next≤4096)
 (ht:σ.take (1+2*(n:Int))=((next,0),σ1)) (ho:σ1.ops≤1000000):
 Calls Tryz.prog 99 #[.pointer (some ⟨ga,0,none⟩),.int .i64 (n:Int)] w fun e w'=>∃gl hs,e= .returned (.tuple #[.pointer (some ⟨gl,0,none⟩),.int .i64 0])∧LkAt w' gl ga ha hs ⟨next⟩ σ1 (zeroS n)∧w.heap.size≤gl∧w.heap.size≤hs∧Mod [ga,ha] w w':=by
 have HT:=take_any ga ha σ w H (1+2*(n:Int));rw[ht]at HT;replace HT:=Lib.hid HT;have hmk:=fun W=>make_spots n (by omega) W;have hga:=H.lt;have i1:(1:Int)≤(n:Int):=by omega
 have i2:(n:Int)≤32:=by omega
 have e1:IntKind.i64.wrap (2*(n:Int))=2*(n:Int):=IntWalk.i64_in _ (by omega);have e2:IntKind.i64.wrap (1+2*(n:Int))=1+2*(n:Int):=IntWalk.i64_in _ (by omega);clear H ht ho;go_enter Tryz.func99,Tryz.ntmps99;go_wp2_with fail;refine HT.out.mono ?_;rintro e w2 ⟨rfl,h2,hm2⟩;have H2:=Lib.hid h2;clear h2;have hz2:=hm2.size
 have hK:LkAt ((w2.alloc (.cells ((zeroS n).flatMap decSp).toArray 134)).alloc (.cells #[.pointer (some ⟨ga,0,none⟩),.int .i64 next,.slice (some ⟨w2.heap.size,0,none⟩) n n] 272)) (w2.heap.size+1) ga ha w2.heap.size ⟨next⟩ σ1 (zeroS n):=by
  have hb:=(below_new w2 (.cells ((zeroS n).flatMap decSp).toArray 134));have hb2:=below_new (w2.alloc (.cells ((zeroS n).flatMap decSp).toArray 134)) (.cells #[.pointer (some ⟨ga,0,none⟩),.int .i64 next,.slice (some ⟨w2.heap.size,0,none⟩) n n] 272);have hbl:=blk_new (w2.alloc (.cells ((zeroS n).flatMap decSp).toArray 134)) (.cells #[.pointer (some ⟨ga,0,none⟩),.int .i64 next,.slice (some ⟨w2.heap.size,0,none⟩) n n] 272);have hzl:(zeroS n).length=n:=by simp[zeroS]
  refine⟨(H2.out.step hb).step hb2,(spAt_new w2 n).mod (S:=[]) (Mod.of_below hb2) (by simp),by omega,⟨n,?_⟩,by omega,by omega,by omega,by omega,by omega⟩;rw[hzl];simpa using hbl
 have hmm:Mod [ga,ha] w ((w2.alloc (.cells ((zeroS n).flatMap decSp).toArray 134)).alloc (.cells #[.pointer (some ⟨ga,0,none⟩),.int .i64 next,.slice (some ⟨w2.heap.size,0,none⟩) n n] 272)):=(hm2.alloc _).alloc _;have HK:=Lib.hid hK;clear H2 hm2 hK;have e0:(w2.alloc (.cells ((zeroS n).flatMap decSp).toArray 134)).heap.size=w2.heap.size+1:=by simp
 go_wp2_with fail;go_ret2;exact⟨w2.heap.size+1,w2.heap.size,rfl,HK.out,by omega,hz2,hmm⟩
end Go.Proofs.YtfmiioddhpkdkaaGreat.Mc
namespace Go.Proofs.YtfmiioddhpkdkaaGreat.Pt
open Go.RowKit Go.Proofs.YtfmiioddhpkdkaaGreat.Ara Go.Proofs.YtfmiioddhpkdkaaGreat.Lok
structure Par where
 next:Int
 parts:Int
def place (P:Par)(t:Int):Int:=P.next+1+t%P.parts
def stepP (P:Par)(σ:Ar)(sp:List Sp)(i:Int):Bool×Ar×List Sp:=
 if(spOf sp i).pc=1 then(false,σ.op 5 P.next true (σ.get P.next+1),sp.set i.toNat {spOf sp i with pc:=2,a:=σ.get P.next})
 else if(spOf sp i).pc=2 then(σ.get (place P (spOf sp i).a)==(spOf sp i).a+1,σ.op 1 (place P (spOf sp i).a) false 0,if σ.get (place P (spOf sp i).a)=(spOf sp i).a+1 then sp.set i.toNat {spOf sp i with pc:=10}else sp)
 else if(spOf sp i).pc=11 then(true,σ.op 2 (place P ((spOf sp i).a+1)) true ((spOf sp i).a+2),sp.set i.toNat {spOf sp i with pc:=0})
 else(false,σ,sp)
def aloneP (P:Par)(σ:Ar)(sp:List Sp)(i:Int):Bool×Ar:=
 if(spOf sp i).pc=10 then(σ.get P.next==(spOf sp i).a+1,σ.op 1 P.next false 0)else(false,σ)
def doP (P:Par)(σ:Ar)(sp:List Sp)(kd i:Int):Bool×Ar×List Sp:=
 if kd=0 then stepP P σ sp i else if kd=1 then(turnB sp i 0,σ,turnS sp i 0 1)else if kd=2 then(turnB sp i 10,σ,turnS sp i 10 11)
 else if kd=3 then((aloneP P σ sp i).1,(aloneP P σ sp i).2,sp)else(false,σ,sp)
def inq (s:Sp):Prop:=s.pc=2∨s.pc=10∨s.pc=11
structure Inv (P:Par)(σ:Ar)(sp:List Sp)(S T:Nat):Prop where
 hl:σ.t≤σ.ws.length
 p1:1≤P.parts
 p2:P.parts≤32
 n1:1≤P.next
 n2:P.next+P.parts≤σ.t
 gT:σ.get P.next=T
 le:S≤T
 srv:σ.get (place P S)=S+1
 low:∀x:Int,0≤x→x<P.parts→σ.get (P.next+1+x)≤S+1
 pcs:∀i,(spOf sp i).pc=0∨(spOf sp i).pc=1∨inq (spOf sp i)
 tick:∀i,inq (spOf sp i)→(S:Int)≤(spOf sp i).a∧(spOf sp i).a<T
 hold:∀i,(spOf sp i).pc=10∨(spOf sp i).pc=11→(spOf sp i).a=S
 inj:∀i j,inq (spOf sp i)→inq (spOf sp j)→(spOf sp i).a=(spOf sp j).a→i=j
 all:∀t:Int,S≤t→t<T→∃i,inq (spOf sp i)∧(spOf sp i).a=t
 rng:∀i,0≤(spOf sp i).a∧(spOf sp i).a≤T
theorem place_in {P:Par}(h:1≤P.parts)(t:Int):∃x,0≤x∧x<P.parts∧place P t=P.next+1+x:=
 ⟨t%P.parts,Int.emod_nonneg _ (by omega),Int.emod_lt_of_pos _ (by omega),rfl⟩
theorem Inv.has {P:Par}{σ:Ar}{sp:List Sp}{S T:Nat}(h:Inv P σ sp S T)(t:Int):σ.has (place P t)=true:=by
 obtain⟨x,x0,x1,e⟩:=place_in h.p1 t;rw[e];have:=h.n1;have:=h.n2;simp[Ar.has];omega
theorem Inv.hasN {P:Par}{σ:Ar}{sp:List Sp}{S T:Nat}(h:Inv P σ sp S T):σ.has P.next=true:=by
 have:=h.n1;have:=h.n2;have:=h.p1;simp[Ar.has];omega
theorem Inv.read {P:Par}{σ:Ar}{sp:List Sp}{S T:Nat}(h:Inv P σ sp S T)(p v:Int):Inv P (σ.op 1 p false v) sp S T:=by
 refine {h with hl:= ?_,n2:= ?_,gT:= ?_,srv:= ?_,low:= ?_}
 ·rw[op_t,op_len];exact h.hl
 ·rw[op_t];exact h.n2
 ·rw[get_read σ h.hl];exact h.gT
 ·rw[get_read σ h.hl];exact h.srv
 ·intro x h0 h1
  rw[get_read σ h.hl];exact h.low x h0 h1
theorem Inv.idle {P:Par}{σ:Ar}{sp sp':List Sp}{S T:Nat}(h:Inv P σ sp S T)(i:Int)(s':Sp)(hs:∀j,spOf sp' j=if j=i then s' else spOf sp j)(h0:¬inq (spOf sp i))(h1:s'.pc=0∨s'.pc=1)(ha:s'.a=(spOf sp i).a):Inv P σ sp' S T:=by
 have h2:¬inq s':=by unfold inq;omega
 refine {h with pcs:=fun j=> ?_,tick:=fun j hj=> ?_,hold:=fun j hj=> ?_,inj:=fun j k hj hk e=> ?_,all:=fun t t0 t1=> ?_,rng:=fun j=> ?r}
 case r=>
  rw[hs];split
  ·rw[ha];exact h.rng i
  ·exact h.rng j
 ·rw[hs];split
  ·omega
  ·exact h.pcs j
 ·rw[hs]at hj⊢;split at hj
  ·exact absurd hj h2
  ·rename_i e;rw[if_neg e];exact h.tick j hj
 ·rw[hs]at hj⊢;split at hj
  ·omega
  ·rename_i e;rw[if_neg e];exact h.hold j hj
 ·rw[hs]at hj hk e;rw[hs k]at e
  split at hj
  ·exact absurd hj h2
  ·split at hk
   ·exact absurd hk h2
   ·rename_i e1 e2
    rw[if_neg e1,if_neg e2]at e;exact h.inj j k hj hk e
 ·obtain⟨k,k1,k2⟩:=h.all t t0 t1
  refine⟨k,?_⟩;have:k≠i:=fun e=>h0 (e▸k1);rw[hs,if_neg this];exact⟨k1,k2⟩
theorem Inv.keeps {P:Par}{σ:Ar}{sp sp':List Sp}{S T:Nat}(h:Inv P σ sp S T)(i:Int)(s':Sp)(hs:∀j,spOf sp' j=if j=i then s' else spOf sp j)(h0:inq (spOf sp i))(h1:s'.pc=10∨s'.pc=11)(ha:s'.a=(spOf sp i).a)(hS:s'.a=S):Inv P σ sp' S T:=by
 have h2:inq s':=by unfold inq;omega
 have hh:∀j,inq (spOf sp' j)↔inq (spOf sp j):=by
  intro j;rw[hs];split
  ·rename_i e;subst e;exact⟨fun _=>h0,fun _=>h2⟩
  ·exact Iff.rfl
 have hA:∀j,(spOf sp' j).a=(spOf sp j).a:=by
  intro j;rw[hs];split
  ·rename_i e;subst e;exact ha
  ·rfl
 refine {h with pcs:=fun j=> ?_,tick:=fun j hj=> ?_,hold:=fun j hj=> ?_,inj:=fun j k hj hk e=> ?_,all:=fun t t0 t1=> ?_,rng:=fun j=> ?r}
 case r=>rw[hA];exact h.rng j
 ·rw[hs];split
  ·exact .inr (.inr h2)
  ·exact h.pcs j
 ·rw[hA];exact h.tick j ((hh j).1 hj)
 ·rw[hs]at hj⊢;split at hj
  ·rename_i e;rw[if_pos e];exact hS
  ·rename_i e;rw[if_neg e];exact h.hold j hj
 ·rw[hA,hA]at e;exact h.inj j k ((hh j).1 hj) ((hh k).1 hk) e
 ·obtain⟨k,k1,k2⟩:=h.all t t0 t1
  exact⟨k,(hh k).2 k1,by rw[hA];exact k2⟩
theorem Inv.takes {P:Par}{σ:Ar}{sp sp':List Sp}{S T:Nat}(h:Inv P σ sp S T)(i:Int)(s':Sp)(hs:∀j,spOf sp' j=if j=i then s' else spOf sp j)(h0:¬inq (spOf sp i))(h1:s'.pc=2)(ha:s'.a=T):Inv P (σ.op 5 P.next true (T+1)) sp' S (T+1):=by
 have hg:=fun q=>get_op σ h.hl 5 P.next ((T:Int)+1) true q;simp only[h.hasN,true_and]at hg;have h2:inq s':= .inl h1;refine {p1:=h.p1,p2:=h.p2,n1:=h.n1,le:=by have:=h.le;omega,hl:= ?_,n2:= ?_,gT:= ?_,srv:= ?_,low:= ?_,pcs:=fun j=> ?_,tick:=fun j hj=> ?_,hold:=fun j hj=> ?_,inj:=fun j k hj hk e=> ?_,all:=fun t t0 t1=> ?_,rng:=fun j=> ?r}
 case r=>
  have hr:=h.rng j;rw[hs];split
  ·rw[ha];have:=h.rng i;omega
  ·omega
 ·rw[op_t,op_len];exact h.hl
 ·rw[op_t];exact h.n2
 ·rw[hg,if_pos rfl];simp
 ·obtain⟨x,x0,x1,e⟩:=place_in h.p1 S
  have:=h.srv;rw[hg,if_neg (by rw[e];omega)];exact this
 ·intro x x0 x1
  rw[hg,if_neg (by omega)];exact h.low x x0 x1
 ·rw[hs];split
  ·exact .inr (.inr h2)
  ·exact h.pcs j
 ·rw[hs]at hj⊢;split at hj
  ·rename_i e;rw[if_pos e,ha];have:=h.le;omega
  ·rename_i e;rw[if_neg e];have:=h.tick j hj;omega
 ·rw[hs]at hj⊢;split at hj
  ·omega
  ·rename_i e;rw[if_neg e];exact h.hold j hj
 ·rw[hs]at hj hk e;rw[hs k]at e
  split at hj
  ·split at hk
   ·omega
   ·rename_i e1 e2
    rw[if_pos e1,if_neg e2,ha]at e;have:=h.tick k hk;omega
  ·split at hk
   ·rename_i e1 e2
    rw[if_neg e1,if_pos e2,ha]at e;have:=h.tick j hj;omega
   ·rename_i e1 e2
    rw[if_neg e1,if_neg e2]at e;exact h.inj j k hj hk e
 ·by_cases e:t=T
  ·exact⟨i,by rw[hs,if_pos rfl];exact⟨h2,by rw[ha,e]⟩⟩
  ·obtain⟨k,k1,k2⟩:=h.all t t0 (by omega)
   refine⟨k,?_⟩;have:k≠i:=fun e=>h0 (e▸k1);rw[hs,if_neg this];exact⟨k1,k2⟩
theorem Inv.passes {P:Par}{σ:Ar}{sp sp':List Sp}{S T:Nat}(h:Inv P σ sp S T)(i:Int)(s':Sp)(hs:∀j,spOf sp' j=if j=i then s' else spOf sp j)(h0:(spOf sp i).pc=10∨(spOf sp i).pc=11)(h1:s'.pc=0)(ha:s'.a=(spOf sp i).a):Inv P (σ.op 2 (place P ((S:Int)+1)) true (S+2)) sp' (S+1) T:=by
 have hg:=fun q=>get_op σ h.hl 2 (place P ((S:Int)+1)) ((S:Int)+2) true q;simp only[h.has,true_and]at hg;have hq:inq (spOf sp i):= .inr h0;have hS:=h.hold i h0;have hT:=h.tick i hq;have h2:¬inq s':=by unfold inq;omega
 obtain⟨y,y0,y1,ey⟩:=place_in h.p1 ((S:Int)+1);refine {p1:=h.p1,p2:=h.p2,n1:=h.n1,le:=by omega,hl:= ?_,n2:= ?_,gT:= ?_,srv:= ?_,low:= ?_,pcs:=fun j=> ?_,tick:=fun j hj=> ?_,hold:=fun j hj=> ?_,inj:=fun j k hj hk e=> ?_,all:=fun t t0 t1=> ?_,rng:=fun j=> ?r}
 case r=>
  have hr:=h.rng j;rw[hs];split
  ·rw[ha];have:=h.rng i;omega
  ·omega
 ·rw[op_t,op_len];exact h.hl
 ·rw[op_t];exact h.n2
 ·rw[hg,if_neg (by rw[ey];omega)];exact h.gT
 ·rw[hg,if_pos (by simp)];simp;omega
 ·intro x x0 x1
  rw[hg];have:=h.low x x0 x1;split<;>omega
 ·rw[hs];split
  ·exact .inl h1
  ·exact h.pcs j
 ·rw[hs]at hj⊢;split at hj
  ·exact absurd hj h2
  ·rename_i e
   rw[if_neg e];have h3:=h.tick j hj;have h4:(spOf sp j).a≠(spOf sp i).a:=fun e'=>e (h.inj j i hj hq e');omega
 ·rw[hs]at hj⊢;split at hj
  ·omega
  ·rename_i e
   exact absurd (h.inj j i (.inr hj) hq (by rw[h.hold j hj,hS])) e
 ·rw[hs]at hj hk e;rw[hs k]at e
  split at hj
  ·exact absurd hj h2
  ·split at hk
   ·exact absurd hk h2
   ·rename_i e1 e2
    rw[if_neg e1,if_neg e2]at e;exact h.inj j k hj hk e
 ·obtain⟨k,k1,k2⟩:=h.all t (by omega) t1
  refine⟨k,?_⟩;have:k≠i:=fun e=>by subst e;omega
  rw[hs,if_neg this];exact⟨k1,k2⟩
theorem Inv.served {P:Par}{σ:Ar}{sp:List Sp}{S T:Nat}(h:Inv P σ sp S T)(i:Int)(h0:inq (spOf sp i))(h1:σ.get (place P (spOf sp i).a)=(spOf sp i).a+1):(spOf sp i).a=S:=by
 obtain⟨x,x0,x1,e⟩:=place_in h.p1 (spOf sp i).a;have:=h.low x x0 x1;rw[e]at h1;have:=h.tick i h0;omega
theorem step_inv {P:Par}{σ:Ar}{sp:List Sp}{S T:Nat}(h:Inv P σ sp S T)(i:Int):∃S' T',T'≤T+1∧Inv P (stepP P σ sp i).2.1 (stepP P σ sp i).2.2 S' T':=by
 unfold stepP;by_cases h1:(spOf sp i).pc=1
 ·rw[if_pos h1]
  obtain⟨i0,i1⟩:=spOf_range (sp:=sp) (i:=i) (by omega);refine⟨S,T+1,Nat.le_refl _,?_⟩;have:=h.takes i _ (spOf_set i0 i1 {spOf sp i with pc:=2,a:=σ.get P.next}) (by unfold inq;omega) rfl h.gT;rw[←h.gT]at this;exact this
 rw[if_neg h1];by_cases h2:(spOf sp i).pc=2
 ·rw[if_pos h2]
  obtain⟨i0,i1⟩:=spOf_range (sp:=sp) (i:=i) (by omega);refine⟨S,T,Nat.le_succ _,?_⟩;by_cases h3:σ.get (place P (spOf sp i).a)=(spOf sp i).a+1
  ·simp only[h3,if_true]
   exact(h.keeps i _ (spOf_set i0 i1 {spOf sp i with pc:=10}) (.inl h2) (.inl rfl) rfl (h.served i (.inl h2) h3)).read _ _
  ·simp only[h3,if_false]
   exact h.read _ _
 rw[if_neg h2];by_cases h3:(spOf sp i).pc=11
 ·rw[if_pos h3]
  obtain⟨i0,i1⟩:=spOf_range (sp:=sp) (i:=i) (by omega);refine⟨S+1,T,Nat.le_succ _,?_⟩;have:=h.passes i _ (spOf_set i0 i1 {spOf sp i with pc:=0}) (.inr h3) rfl rfl;have e:=h.hold i (.inr h3);rw[←e]at this;exact this
 rw[if_neg h3];exact⟨S,T,Nat.le_succ _,h⟩
theorem do_inv {P:Par}{σ:Ar}{sp:List Sp}{S T:Nat}(h:Inv P σ sp S T)(kd i:Int):∃S' T',T'≤T+1∧Inv P (doP P σ sp kd i).2.1 (doP P σ sp kd i).2.2 S' T':=by
 unfold doP;split
 ·exact step_inv h i
 split
 ·refine⟨S,T,Nat.le_succ _,?_⟩
  cases ht:turnB sp i 0
  ·simp only[turn_no 1 ht];exact h
  ·have hp:=(turn_true ht).2
   exact h.idle i _ (spOf_turn 1 ht) (by unfold inq;omega) (.inr rfl) rfl
 split
 ·refine⟨S,T,Nat.le_succ _,?_⟩
  cases ht:turnB sp i 10
  ·simp only[turn_no 11 ht];exact h
  ·have hp:=(turn_true ht).2
   exact h.keeps i _ (spOf_turn 11 ht) (.inr (.inl hp)) (.inr rfl) rfl (h.hold i (.inl hp))
 split
 ·refine⟨S,T,Nat.le_succ _,?_⟩
  unfold aloneP;split
  ·exact h.read _ _
  ·exact h
 ·exact⟨S,T,Nat.le_succ _,h⟩
theorem Inv.one {P:Par}{σ:Ar}{sp:List Sp}{S T:Nat}(h:Inv P σ sp S T)(n:Nat):cnt (fun s=>s.pc==10) sp n≤1:=by
 refine cnt_one _ _ (fun i j hi hj=> ?_) n;simp only[beq_iff_eq]at hi hj;exact h.inj i j (.inr (.inl hi)) (.inr (.inl hj)) (by rw[h.hold i (.inl hi),h.hold j (.inl hj)])
theorem Inv.behind {P:Par}{σ:Ar}{sp:List Sp}{S T:Nat}(h:Inv P σ sp S T)(i:Int)(hp:(spOf sp i).pc=10)(ha:(aloneP P σ sp i).1=false):0<cnt (fun s=>decide (0<s.pc)&&decide (s.pc<10)) sp sp.length:=by
 unfold aloneP at ha;rw[if_pos hp,h.gT,h.hold i (.inl hp)]at ha;simp at ha;have hT:=h.tick i (.inr (.inl hp));have hS:=h.hold i (.inl hp);obtain⟨k,k1,k2⟩:=h.all (S+1) (by omega) (by omega)
 have h3:(spOf sp k).pc=2:=by
  rcases k1 with k1|k1
  ·exact k1
  ·have:=h.hold k k1
   omega
 obtain⟨r0,r1⟩:=spOf_range (sp:=sp) (i:=k) (by omega);exact cnt_some _ _ k (by rw[h3];rfl) r0 _ r1
theorem zero_get (n t:Nat)(o k p:Int)(ops:Nat)(wr:Bool)(q:Int):(⟨zerosW n,t,ops,k,p,wr⟩:Ar).get q=0:=by
 unfold Ar.get;split
 ·simp[zerosW,List.getD_eq_getElem?_getD,List.getElem?_replicate]
  split<;>rfl
 ·rfl
theorem zero_spot (n:Nat)(i:Int):spOf (List.replicate n sp0) i=sp0:=by
 unfold spOf;split
 ·simp[List.getD_eq_getElem?_getD,List.getElem?_replicate]
  split<;>rfl
 ·rfl
theorem inv_start (parts:Int)(p1:1≤parts)(p2:parts≤32)(n:Nat):Inv ⟨1,parts⟩ ((⟨zerosW 100,(1+parts).toNat,0,0,0,false⟩:Ar).op 2 (place ⟨1,parts⟩ 0) true 1) (List.replicate n sp0) 0 0:=by
 have hh:(⟨zerosW 100,(1+parts).toNat,0,0,0,false⟩:Ar).has (place ⟨1,parts⟩ 0)=true:=by
  obtain⟨x,x0,x1,e⟩:=place_in (P:=⟨1,parts⟩) p1 0;rw[e];simp only at x1;simp[Ar.has];omega
 have hg:=fun q=>get_op (⟨zerosW 100,(1+parts).toNat,0,0,0,false⟩:Ar) (by simp[zerosW];omega) 2 (place ⟨1,parts⟩ 0) 1 true q;simp only[hh,true_and,zero_get 100 (1+parts).toNat 0 0 0 0 false]at hg;have hs:=zero_spot n
 have hq:∀i,¬inq (spOf (List.replicate n sp0) i):=by
  intro i;rw[hs];unfold inq sp0;simp
 refine {p1:=p1,p2:=p2,n1:=Int.le_refl _,le:=Nat.le_refl _,hl:= ?_,n2:= ?_,gT:= ?_,srv:= ?_,low:= ?_,pcs:=fun i=> ?_,tick:=fun i hi=>absurd hi (hq i),hold:=fun i hi=>absurd (Or.inr hi) (hq i),inj:=fun i j hi=>absurd hi (hq i),all:=fun t t0 t1=> ?_,rng:=fun i=> ?_}
 ·rw[op_t,op_len];simp[zerosW];omega
 ·rw[op_t];show 1+parts≤_;simp;omega
 ·rw[hg]
  obtain⟨x,x0,x1,e⟩:=place_in (P:=⟨1,parts⟩) p1 0;rw[if_neg (by rw[e];show¬(1:Int)=1+1+x;omega)];rfl
 ·rw[hg,if_pos (show place ⟨1,parts⟩ ((0:Nat):Int)=place ⟨1,parts⟩ 0 from rfl)];rfl
 ·intro x x0 x1
  rw[hg];split<;>simp
 ·left;rw[hs];rfl
 ·omega
 ·rw[hs];exact⟨Int.le_refl _,Int.le_refl _⟩
end Go.Proofs.YtfmiioddhpkdkaaGreat.Pt
