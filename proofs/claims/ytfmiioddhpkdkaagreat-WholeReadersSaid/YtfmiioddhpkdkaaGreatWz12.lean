/- Merged texts: Ta3, Ta4, PtO, PtI, McI, ClP. -/
import Derived.Test.YtfmiioddhpkdkaaGreatWz11
import Derived.RegionTactic
import Derived.BigRegion
set_option linter.unusedVariables false
set_option linter.unusedSimpArgs false
set_option maxRecDepth 100000
set_option maxHeartbeats 8000000
namespace Go.Proofs.YtfmiioddhpkdkaaGreat.Ta
open Go.RowKit Ara Lok
theorem modHere3 {S:List Nat}{hs:Nat}{a w:World}(h:Mod S a w)(hh:hs∈S)(i j l:Nat)(u v x:Value):Mod S a (((w.setCell ⟨hs,i,none⟩ u).setCell ⟨hs,j,none⟩ v).setCell ⟨hs,l,none⟩ x):=((h.setCell hh u).setCell hh v).setCell hh x
section
variable(gl ga ha hs:Nat)(P:Par)(σ:Ar)(sp:List Sp)(w:World)(H:LkAt w gl ga ha hs P σ sp)
include H
section
variable(k:Nat)(hk:k<sp.length)
include hk
theorem step_two (hp:sp[k].pc=2)(hb:0≤sp[k].b∧sp[k].b≤4096)(sp2:List Sp)(h2:sp2=sp.set k ⟨if sp[k].b-1=0 then 1 else 2,sp[k].a,sp[k].b-1,sp[k].c⟩):Calls Tryz.prog 340 #[.pointer (some ⟨gl,0,none⟩),.int .i64 (k:Int)] w fun e w'=>e= .returned (.bool false)∧LkAt w' gl ga ha hs P σ sp2∧Mod [ga,ha,hs] w w':=by
 have HS:=Lib.hid (spot_in_lk gl ga ha hs P σ sp w H k hk);obtain⟨s0,s1,s2,s3,sf⟩:=H.2.1.cells k hk;rw[hp]at s0;have f2:=sf (k*4+2);have hu1:LkAt (w.setCell ⟨hs,k*4+2,none⟩ (.int .i64 (sp[k].b-1))) gl ga ha hs P σ (sp.set k {sp[k]with b:=sp[k].b-1}):=H.spots (H.2.1.setB k hk (sp[k].b-1)) ((Mod.refl [hs] w).setCell (by simp) _) (by rw[List.length_set]);have hkk:k<(sp.set k {sp[k]with b:=sp[k].b-1}).length:=by rw[List.length_set];exact hk
 have hgk:(sp.set k {sp[k]with b:=sp[k].b-1})[k]={sp[k]with b:=sp[k].b-1}:=List.getElem_set_self hkk;obtain⟨t0,t1,t2,t3,tf⟩:=hu1.2.1.cells k hkk;have g0:=tf (k*4);rw[hgk]at t0 t2;have e1:IntKind.i64.wrap (sp[k].b-1)=sp[k].b-1:=IntWalk.i64_in _ (by omega);have hm1:Mod [ga,ha,hs] w (w.setCell ⟨hs,k*4+2,none⟩ (.int .i64 (sp[k].b-1))):=(Mod.refl _ _).setCell (by simp) _;by_cases hz:sp[k].b-1=0
 ·have hu2:=hu1.spots (hu1.2.1.setPc k hkk 1) ((Mod.refl [hs] _).setCell (by simp) _) (by rw[List.length_set])
  have e:(sp.set k {sp[k]with b:=sp[k].b-1}).set k {(sp.set k {sp[k]with b:=sp[k].b-1})[k]with pc:=1}=sp2:=by
   rw[hgk,List.set_set,h2,if_pos hz]
  rw[e]at hu2;have HU:=Lib.hid hu2;have hm2:Mod [ga,ha,hs] w ((w.setCell ⟨hs,k*4+2,none⟩ (.int .i64 (sp[k].b-1))).setCell ⟨hs,k*4,none⟩ (.int .i64 1)):=hm1.setCell (by simp) _;have e9:=ibeq hz;clear hu1 hu2 e h2 hgk H t1 t3 tf sf s1 s3 hz;simp only[hp]at t0;generalize sp[k].b=xb at*;generalize sp[k].pc=xp at*;clear hp;go_enter Tryz.func340,Tryz.ntmps340;go_wp2_with fail;refine(HS.out).mono ?_;rintro e wx ⟨rfl,hwx⟩;obtain rfl:=hwx.symm;go_wp2_with fail;go_ret;exact⟨rfl,HU.out,hm2⟩
 ·have e:sp.set k {sp[k]with b:=sp[k].b-1}=sp2:=by
   rw[h2,if_neg hz,←hp]
  rw[e]at hu1;have HU:=Lib.hid hu1;have e9:=ibeq_no hz;clear hu1 e h2 hgk H t1 t3 tf sf s1 s3 hz t0 g0;generalize sp[k].b=xb at*;generalize sp[k].pc=xp at*;clear hp;go_enter Tryz.func340,Tryz.ntmps340;go_wp2_with fail;refine(HS.out).mono ?_;rintro e wx ⟨rfl,hwx⟩;obtain rfl:=hwx.symm;go_wp2_with fail;go_ret;exact⟨rfl,HU.out,hm1⟩
theorem step_one_no (ho:σ.ops≤1000000)(hp:sp[k].pc=1)(hr:0≤sp[k].a∧sp[k].a≤4096)(hmo:1≤P.most∧P.most≤4096)(hc:(σ.has P.word&&(σ.get P.word==0))=false)(sp2:List Sp)(h2:sp2=sp.set k ⟨2,min (2*sp[k].a) P.most,sp[k].a,sp[k].c⟩):Calls Tryz.prog 340 #[.pointer (some ⟨gl,0,none⟩),.int .i64 (k:Int)] w fun e w'=>e= .returned (.bool false)∧LkAt w' gl ga ha hs P (σ.op 4 P.word false ((k:Int)+1)) sp2∧Mod [ga,ha,hs] w w':=by
 have HSt:=fun W (K:LkAt W gl ga ha hs P σ sp)=>cas_any ga ha σ W K.1 ho P.word 0 ((k:Int)+1);rw[hc]at HSt;replace HSt:=Lib.hid HSt;have HS:=Lib.hid (spot_in_lk gl ga ha hs P σ sp w H k hk);obtain⟨⟨cc,q0,q1,q2,q3⟩,hl32⟩:=H.heads;obtain⟨d1,d2,d3,d4,d5⟩:=H.2.2.2.2;have s0:=(H.2.1.cells k hk).1;rw[hp]at s0;have HH:=Lib.hid H;have e1:IntKind.i64.wrap ((k:Int)+1)=(k:Int)+1:=IntWalk.i64_in _ (by omega);have e2:IntKind.i64.wrap (2*sp[k].a)=2*sp[k].a:=IntWalk.i64_in _ (by omega)
 have HC:=Lib.hid (fun W (K:LkAt W gl ga ha hs P (σ.op 4 P.word false ((k:Int)+1)) sp)=>show(W.cell? ⟨hs,k*4,none⟩=some (.int .i64 sp[k].pc)∧W.cell? ⟨hs,k*4+1,none⟩=some (.int .i64 sp[k].a)∧W.cell? ⟨hs,k*4+2,none⟩=some (.int .i64 sp[k].b)∧(∀j,W.frozen? ⟨hs,j,none⟩=false)∧W.cell? ⟨gl,2,none⟩=some (.int .i64 P.most))∧
  LkAt (((W.setCell ⟨hs,k*4,none⟩ (.int .i64 2)).setCell ⟨hs,k*4+2,none⟩ (.int .i64 sp[k].a)).setCell ⟨hs,k*4+1,none⟩ (.int .i64 (min (2*sp[k].a) P.most))) gl ga ha hs P (σ.op 4 P.word false ((k:Int)+1)) sp2 from by
  obtain⟨⟨cc,_,_,q2,_⟩,_⟩:=K.heads;obtain⟨c0,c1,c2,_,cf⟩:=K.2.1.cells k hk;refine⟨⟨c0,c1,c2,cf,q2⟩,?_⟩;have l1:k<(sp.set k {sp[k]with pc:=2}).length:=by rw[List.length_set];exact hk
  have u1:=K.spots (K.2.1.setPc k hk 2) ((Mod.refl [hs] W).setCell (by simp) _) (by rw[List.length_set]);have g1:(sp.set k {sp[k]with pc:=2})[k]={sp[k]with pc:=2}:=List.getElem_set_self l1;have u2:=u1.spots (u1.2.1.setB k l1 sp[k].a) ((Mod.refl [hs] _).setCell (by simp) _) (by rw[List.length_set]);rw[g1,List.set_set]at u2;have l2:k<(sp.set k { {sp[k]with pc:=2}with b:=sp[k].a}).length:=by rw[List.length_set];exact hk
  have u3:=u2.spots (u2.2.1.setA k l2 (min (2*sp[k].a) P.most)) ((Mod.refl [hs] _).setCell (by simp) _) (by rw[List.length_set]);rw[List.getElem_set_self,List.set_set]at u3;rw[h2];exact u3)
 obtain⟨mn,hmn⟩:∃mn,min (2*sp[k].a) P.most=mn:=⟨_,rfl⟩;have hmn2:(2*sp[k].a≤P.most∧mn=2*sp[k].a)∨(P.most<2*sp[k].a∧mn=P.most):=by omega
 rw[hmn]at HC;generalize σ.op 4 P.word false ((k:Int)+1)=σ2 at*;generalize sp[k].pc=xp at*;generalize sp[k].a=xa at*;generalize sp[k].b=xb at*;have HMN:=Lib.hid hmn2;clear hmn hmn2;clear h2 H hp hc ho;have HKK:=Lib.hid hk;go_enter Tryz.func340,Tryz.ntmps340;go_wp2_with fail;refine(HS.out).mono ?_;rintro e wx ⟨rfl,hwx⟩;obtain rfl:=hwx.symm;go_wp2_with fail
 go_region_held3(fun V=>V.cell? ⟨gl,0,none⟩=some (.pointer (some ⟨ga,0,none⟩))∧V.cell? ⟨gl,1,none⟩=some (.int .i64 P.word))
  (first|exact⟨q0,q1⟩|exact k2)
  (first
   |(go_at_call 202;refine(HSt.out _ (HH.out.drewN 1)).mono ?_;rintro e w2 ⟨rfl,ha2,hm2⟩;have k2:=And.intro (keepM hm2 (show(w.drewN 1).cell? _=_ from q0) (by simp;omega)) (keepM hm2 (show(w.drewN 1).cell? _=_ from q1) (by simp;omega));have H2:=Lib.hid ((HH.out.drewN 1).arena ha2 hm2)))
 have hmm:Mod [ga,ha,hs] w w2:=((Mod.refl _ _).drewN 1).trans (hm2.sub (by simp));clear k2 ha2 hm2;obtain⟨⟨c0,c1,c2,cf,c4⟩,_⟩:=HC.out _ H2.out;have HD:=Lib.hid (HC.out _ (H2.out.drewN 1)).2;have f0:=cf (k*4);have f1:=cf (k*4+1);have f2:=cf (k*4+2);clear cf HC q0 q1 q2 q3 s0;have hmm1:=hmm.drewN 1;have HM3:=Lib.hid (modHere3 (hs:=hs) hmm1 (by simp) (k*4) (k*4+2) (k*4+1) (.int .i64 2) (.int .i64 xa) (.int .i64 mn));clear hmm hmm1;rcases HMN.out with⟨hle,rfl⟩|⟨hlt,rfl⟩
 ·clear HMN
  go_wp2_with fail;go_region
  all_goals
   go_wp2_with fail;go_ret;exact⟨rfl,HD.out,HM3.out⟩
 ·clear HMN
  go_wp2_with fail;go_region
  all_goals
   go_wp2_with fail;go_ret;exact⟨rfl,HD.out,HM3.out⟩
end
end
end Go.Proofs.YtfmiioddhpkdkaaGreat.Ta
namespace Go.Proofs.YtfmiioddhpkdkaaGreat.Ta
open Go.RowKit Ara Lok
section
variable(gl ga ha hs:Nat)(P:Par)(σ:Ar)(sp:List Sp)(w:World)(H:LkAt w gl ga ha hs P σ sp)
include H
theorem no_Ask (i:Int)(h:turnB sp i 0=false):Calls Tryz.prog 336 #[.pointer (some ⟨gl,0,none⟩),.int .i64 i] w fun e w'=>e= .returned (.bool false)∧w'=w:=by
 by_cases hi:i<0∨(sp.length:Int)≤i
 ·have HS:=Lib.hid (spot_out_lk gl ga ha hs P σ sp w H i hi)
  clear H hi h;go_enter Tryz.func336,Tryz.ntmps336;go_wp2_with fail;refine(HS.out).mono ?_;rintro e wx ⟨rfl,hwx⟩;obtain rfl:=hwx.symm;go_wp2_with fail;go_ret;exact⟨rfl,rfl⟩
 ·obtain⟨k,rfl⟩:=Int.eq_ofNat_of_zero_le (show 0≤i by omega)
  have hk:k<sp.length:=by omega
  have HS:=Lib.hid (spot_in_lk gl ga ha hs P σ sp w H k hk);have c0:=(H.2.1.cells k hk).1;rw[turn_in hk]at h;have e1:(sp[k].pc !=0)=true:=by rw[bne,h];rfl
  generalize sp[k].pc=x at*;clear H hi h;go_enter Tryz.func336,Tryz.ntmps336;go_wp2_with fail;refine(HS.out).mono ?_;rintro e wx ⟨rfl,hwx⟩;obtain rfl:=hwx.symm;go_wp2_with fail;go_ret;exact⟨rfl,rfl⟩
theorem no_Leave (i:Int)(h:turnB sp i 10=false):Calls Tryz.prog 337 #[.pointer (some ⟨gl,0,none⟩),.int .i64 i] w fun e w'=>e= .returned (.bool false)∧w'=w:=by
 by_cases hi:i<0∨(sp.length:Int)≤i
 ·have HS:=Lib.hid (spot_out_lk gl ga ha hs P σ sp w H i hi)
  clear H hi h;go_enter Tryz.func337,Tryz.ntmps337;go_wp2_with fail;refine(HS.out).mono ?_;rintro e wx ⟨rfl,hwx⟩;obtain rfl:=hwx.symm;go_wp2_with fail;go_ret;exact⟨rfl,rfl⟩
 ·obtain⟨k,rfl⟩:=Int.eq_ofNat_of_zero_le (show 0≤i by omega)
  have hk:k<sp.length:=by omega
  have HS:=Lib.hid (spot_in_lk gl ga ha hs P σ sp w H k hk);have c0:=(H.2.1.cells k hk).1;rw[turn_in hk]at h;have e1:(sp[k].pc !=10)=true:=by rw[bne,h];rfl
  generalize sp[k].pc=x at*;clear H hi h;go_enter Tryz.func337,Tryz.ntmps337;go_wp2_with fail;refine(HS.out).mono ?_;rintro e wx ⟨rfl,hwx⟩;obtain rfl:=hwx.symm;go_wp2_with fail;go_ret;exact⟨rfl,rfl⟩
theorem ask_lk (i:Int):Calls Tryz.prog 336 #[.pointer (some ⟨gl,0,none⟩),.int .i64 i] w fun e w'=>e= .returned (.bool (turnB sp i 0))∧LkAt w' gl ga ha hs P σ (askS sp i)∧Mod [hs] w w':=by
 cases ht:turnB sp i 0 with
 |false=>
  have e:askS sp i=sp:=by unfold askS;rw[ht,if_neg (by simp)]
  rw[e];refine(no_Ask gl ga ha hs P σ sp w H i ht).mono ?_;rintro x w' ⟨rfl,rfl⟩;exact⟨rfl,H,Mod.refl _ _⟩
 |true=>
  obtain⟨⟨i0,i1⟩,hp⟩:=turn_true ht;have e:askS sp i=sp.set i.toNat {spOf sp i with pc:=1,a:=1}:=by unfold askS;rw[ht,if_pos rfl]
  rw[e];obtain⟨k,rfl⟩:=Int.eq_ofNat_of_zero_le i0;have hk:k<sp.length:=by omega
  rw[spOf_in hk]at hp⊢;rw[Int.toNat_natCast];exact ask_yes gl ga ha hs P σ sp w H k hk hp _ rfl
theorem leave_lk (i:Int):Calls Tryz.prog 337 #[.pointer (some ⟨gl,0,none⟩),.int .i64 i] w fun e w'=>e= .returned (.bool (turnB sp i 10))∧LkAt w' gl ga ha hs P σ (turnS sp i 10 11)∧Mod [hs] w w':=by
 cases ht:turnB sp i 10 with
 |false=>
  rw[turn_no 11 ht];refine(no_Leave gl ga ha hs P σ sp w H i ht).mono ?_;rintro x w' ⟨rfl,rfl⟩;exact⟨rfl,H,Mod.refl _ _⟩
 |true=>
  obtain⟨⟨i0,i1⟩,hp⟩:=turn_true ht;have e:turnS sp i 10 11=sp.set i.toNat {spOf sp i with pc:=11}:=by unfold turnS;rw[ht,if_pos rfl]
  rw[e];obtain⟨k,rfl⟩:=Int.eq_ofNat_of_zero_le i0;have hk:k<sp.length:=by omega
  rw[spOf_in hk]at hp⊢;rw[Int.toNat_natCast];exact leave_yes gl ga ha hs P σ sp w H k hk hp _ rfl
theorem step_none (i:Int)(h:¬((spOf sp i).pc=1∨(spOf sp i).pc=2∨(spOf sp i).pc=11)):Calls Tryz.prog 340 #[.pointer (some ⟨gl,0,none⟩),.int .i64 i] w fun e w'=>e= .returned (.bool false)∧LkAt w' gl ga ha hs P σ sp∧Mod [ga,ha,hs] w w':=by
 have HH:=Lib.hid H;by_cases hi:i<0∨(sp.length:Int)≤i
 ·have HS:=Lib.hid (spot_out_lk gl ga ha hs P σ sp w H i hi)
  clear H hi h;go_enter Tryz.func340,Tryz.ntmps340;go_wp2_with fail;refine(HS.out).mono ?_;rintro e wx ⟨rfl,hwx⟩;obtain rfl:=hwx.symm;go_wp2_with fail;go_ret;exact⟨rfl,HH.out,Mod.refl _ _⟩
 ·obtain⟨k,rfl⟩:=Int.eq_ofNat_of_zero_le (show 0≤i by omega)
  have hk:k<sp.length:=by omega
  have HS:=Lib.hid (spot_in_lk gl ga ha hs P σ sp w H k hk);have c0:=(H.2.1.cells k hk).1;rw[spOf_in hk]at h;have e1:=ibeq_no (show¬sp[k].pc=1 by omega);have e2:=ibeq_no (show¬sp[k].pc=2 by omega);have e3:=ibeq_no (show¬sp[k].pc=11 by omega);generalize sp[k].pc=x at*;clear H hi h;go_enter Tryz.func340,Tryz.ntmps340;go_wp2_with fail;refine(HS.out).mono ?_;rintro e wx ⟨rfl,hwx⟩;obtain rfl:=hwx.symm;go_wp2_with fail;go_ret;exact⟨rfl,HH.out,Mod.refl _ _⟩
theorem step_lk (hI:Inv P σ sp)(ho:σ.ops≤1000000)(i:Int):Calls Tryz.prog 340 #[.pointer (some ⟨gl,0,none⟩),.int .i64 i] w fun e w'=>e= .returned (.bool (stepP P σ sp i).1)∧LkAt w' gl ga ha hs P (stepP P σ sp i).2.1 (stepP P σ sp i).2.2∧Mod [ga,ha,hs] w w':=by
 by_cases h:(spOf sp i).pc=1∨(spOf sp i).pc=2∨(spOf sp i).pc=11
 ·obtain⟨i0,i1⟩:=spOf_range (sp:=sp) (i:=i) (by omega)
  obtain⟨k,rfl⟩:=Int.eq_ofNat_of_zero_le i0;have hk:k<sp.length:=by omega
  have har:=hI.ar (k:Int);have hbr:=hI.br (k:Int);have hm1:=hI.m1;have hm2:=hI.m2;unfold stepP;rw[spOf_in hk]at h har hbr⊢;simp only[Int.toNat_natCast];rcases h with h|h|h
  ·rw[if_pos h]
   cases hc:tryB P σ with
   |true=>
    simp only[if_true];exact step_one_yes gl ga ha hs P σ sp w H k hk ho h hc _ rfl
   |false=>
    simp only[Bool.false_eq_true,if_false];exact step_one_no gl ga ha hs P σ sp w H k hk ho h (by omega) (by omega) hc _ rfl
  ·rw[if_neg (by omega),if_pos h]
   exact step_two gl ga ha hs P σ sp w H k hk h (by omega) _ rfl
  ·rw[if_neg (by omega),if_neg (by omega),if_pos h]
   exact step_out gl ga ha hs P σ sp w H k hk ho h _ rfl
 ·have e:stepP P σ sp i=(false,σ,sp):=by unfold stepP;rw[if_neg (by omega),if_neg (by omega),if_neg (by omega)]
  rw[e];exact step_none gl ga ha hs P σ sp w H i h
end
theorem do_len (P:Par)(σ:Ar)(sp:List Sp)(kd i:Int):(doP P σ sp kd i).2.2.length=sp.length:=by
 unfold doP;split
 ·unfold stepP
  split
  ·simp
  split
  ·simp
  split
  ·simp
  ·rfl
 split
 ·show(askS sp i).length=_
  unfold askS;split
  ·rw[List.length_set]
  ·rfl
 split
 ·exact turnS_len _ _ _ _
 split<;>rfl
theorem do_ops (P:Par)(σ:Ar)(sp:List Sp)(kd i:Int):(doP P σ sp kd i).2.1.ops≤σ.ops+1∧σ.ops≤(doP P σ sp kd i).2.1.ops:=by
 have h:∀(kd p v:Int) (wr:Bool),(σ.op kd p wr v).ops≤σ.ops+1∧σ.ops≤(σ.op kd p wr v).ops:=by
  intro kd p v wr;rw[op_ops];split<;>omega
 have h0:σ.ops≤σ.ops+1∧σ.ops≤σ.ops:=⟨Nat.le_succ _,Nat.le_refl _⟩;unfold doP;split
 ·unfold stepP
  split
  ·exact h _ _ _ _
  split
  ·exact h0
  split
  ·exact h _ _ _ _
  ·exact h0
 split
 ·exact h0
 split
 ·exact h0
 split
 ·exact h0
 ·exact h0
structure OkP (P:Par)(σ:Ar)(sp:List Sp)(n m:Nat):Prop where
 inv:Inv P σ sp
 ops:σ.ops≤m+1
 len:sp.length=n
section
variable {P:Par}{σ:Ar}{sp:List Sp}{n m:Nat}(h:OkP P σ sp n m)
include h
theorem OkP.act (kd i:Int):OkP P (doP P σ sp kd i).2.1 (doP P σ sp kd i).2.2 n (m+1):=
 ⟨do_inv h.inv kd i,by have:=do_ops P σ sp kd i;have:=h.ops;omega,(do_len P σ sp kd i).trans h.len⟩
end
theorem zero_spot (n:Nat)(i:Int):spOf (zeroS n) i=sp0:=by
 unfold spOf zeroS;split
 ·simp[List.getD_eq_getElem?_getD,List.getElem?_replicate]
  split<;>rfl
 ·rfl
end Go.Proofs.YtfmiioddhpkdkaaGreat.Ta
namespace Go.Proofs.YtfmiioddhpkdkaaGreat.Pt
open Go.RowKit Ara Lok
theorem step_no {P:Par}{σ:Ar}{sp:List Sp}{i:Int}(h1:(spOf sp i).pc≠1)(h2:(spOf sp i).pc≠2)(h3:(spOf sp i).pc≠11):stepP P σ sp i=(false,σ,sp):=by
 unfold stepP;rw[if_neg h1,if_neg h2,if_neg h3]
theorem do_len (P:Par)(σ:Ar)(sp:List Sp)(kd i:Int):(doP P σ sp kd i).2.2.length=sp.length:=by
 unfold doP;split
 ·unfold stepP
  split
  ·simp
  split
  ·simp only;split<;>simp
  split
  ·simp
  ·rfl
 split
 ·exact turnS_len _ _ _ _
 split
 ·exact turnS_len _ _ _ _
 split<;>rfl
theorem do_ops (P:Par)(σ:Ar)(sp:List Sp)(kd i:Int):(doP P σ sp kd i).2.1.ops≤σ.ops+1∧σ.ops≤(doP P σ sp kd i).2.1.ops:=by
 have h:∀(kd p v:Int) (wr:Bool),(σ.op kd p wr v).ops≤σ.ops+1∧σ.ops≤(σ.op kd p wr v).ops:=by
  intro kd p v wr;rw[op_ops];split<;>omega
 unfold doP;split
 ·unfold stepP
  split
  ·exact h _ _ _ _
  split
  ·exact h _ _ _ _
  split
  ·exact h _ _ _ _
  ·exact⟨Nat.le_succ _,Nat.le_refl _⟩
 split
 ·exact⟨Nat.le_succ _,Nat.le_refl _⟩
 split
 ·exact⟨Nat.le_succ _,Nat.le_refl _⟩
 split
 ·unfold aloneP
  split
  ·exact h _ _ _ _
  ·exact⟨Nat.le_succ _,Nat.le_refl _⟩
 ·exact⟨Nat.le_succ _,Nat.le_refl _⟩
end Go.Proofs.YtfmiioddhpkdkaaGreat.Pt
namespace Go.Proofs.YtfmiioddhpkdkaaGreat.Pt
open Go.RowKit Ara Lok
theorem Inv.num {P:Par}{σ:Ar}{sp:List Sp}{S T:Nat}(h:Inv P σ sp S T)(hT:T≤1000000)(ho:σ.ops≤1000000)(hn:P.next≤4096):Num P σ sp:=by
 refine⟨⟨h.p1,h.p2,h.n1,hn⟩,fun k hk=> ?_,ho,h.hasN,?_,?_⟩
 ·have:=h.rng k
  rw[spOf_in hk]at this;omega
 ·rw[h.gT];omega
 ·rw[h.gT];omega
structure OkP (P:Par)(σ:Ar)(sp:List Sp)(n m:Nat):Prop where
 inv:∃S T,Inv P σ sp S T∧T≤m
 ops:σ.ops≤m+1
 nx:P.next≤4096
 len:sp.length=n
section
variable {P:Par}{σ:Ar}{sp:List Sp}{n m:Nat}(h:OkP P σ sp n m)
include h
theorem OkP.act (kd i:Int):OkP P (doP P σ sp kd i).2.1 (doP P σ sp kd i).2.2 n (m+1):=by
 obtain⟨S,T,hi,hT⟩:=h.inv;obtain⟨S',T',hT',hi'⟩:=do_inv hi kd i;exact⟨⟨S',T',hi',by omega⟩,by have:=do_ops P σ sp kd i;have:=h.ops;omega,h.nx,(do_len P σ sp kd i).trans h.len⟩
theorem OkP.num (hm:m≤100000):Num P σ sp:=by
 obtain⟨S,T,hi,hT⟩:=h.inv;exact hi.num (by omega) (by have:=h.ops;omega) h.nx
end
end Go.Proofs.YtfmiioddhpkdkaaGreat.Pt
namespace Go.Proofs.YtfmiioddhpkdkaaGreat.Mc
open Go.RowKit Ara Lok
theorem Inv.num {P:Par}{σ:Ar}{sp:List Sp}{q:List Int}(h:Inv P σ sp q)(hl:sp.length≤32)(ho:σ.ops≤1000000)(hn:P.tail≤4096):Num P σ sp:=by
 refine⟨⟨h.t1,hn⟩,fun k hk=> ?_,ho⟩;have h1:=h.ar (k:Int);have h2:=h.pcs (k:Int);rw[spOf_in hk]at h1 h2;unfold inq outs at h2;unfold pcOk;omega
structure OkP (P:Par)(σ:Ar)(sp:List Sp)(n m:Nat):Prop where
 inv:∃q,Inv P σ sp q
 ops:σ.ops≤m+1
 nx:P.tail≤4096
 len:sp.length=n
 small:n≤32
section
variable {P:Par}{σ:Ar}{sp:List Sp}{n m:Nat}(h:OkP P σ sp n m)
include h
theorem OkP.act (kd i:Int):OkP P (doP P σ sp kd i).2.1 (doP P σ sp kd i).2.2 n (m+1):=by
 obtain⟨q,hi⟩:=h.inv;obtain⟨q',hi'⟩:=do_inv hi kd i;exact⟨⟨q',hi'⟩,by have:=do_ops P σ sp kd i;have:=h.ops;omega,h.nx,(do_len P σ sp kd i).trans h.len,h.small⟩
theorem OkP.num (hm:m≤100000):Num P σ sp:=by
 obtain⟨q,hi⟩:=h.inv;exact hi.num (by have:=h.len;have:=h.small;omega) (by have:=h.ops;omega) h.nx
end
end Go.Proofs.YtfmiioddhpkdkaaGreat.Mc
namespace Go.Proofs.YtfmiioddhpkdkaaGreat.Cl
open Go.RowKit Ara Lok
structure Par where
 tail:Int
def box (P:Par)(n:Int):Int:=P.tail+n
def stepP (P:Par)(σ:Ar)(sp:List Sp)(i:Int):Bool×Ar×List Sp:=
 if(spOf sp i).pc=1 then(false,σ.op 2 (box P (spOf sp i).a) true 1,sp.set i.toNat {spOf sp i with pc:=2})
 else if(spOf sp i).pc=2 then(false,σ.op 3 (box P 0) true (spOf sp i).a,sp.set i.toNat {spOf sp i with pc:=3,b:=σ.get (box P 0)})
 else if(spOf sp i).pc=3 then(σ.get (box P (spOf sp i).b)==0,σ.op 1 (box P (spOf sp i).b) false 0,if σ.get (box P (spOf sp i).b)=0 then sp.set i.toNat {spOf sp i with pc:=10}else sp)
 else if(spOf sp i).pc=11 then(true,σ.op 2 (box P (spOf sp i).a) true 0,sp.set i.toNat {spOf sp i with pc:=0,a:=(spOf sp i).b})
 else(false,σ,sp)
def aloneP (P:Par)(σ:Ar)(sp:List Sp)(i:Int):Bool×Ar:=
 if(spOf sp i).pc=10 then(σ.get P.tail==(spOf sp i).a,σ.op 1 P.tail false 0)else(false,σ)
def doP (P:Par)(σ:Ar)(sp:List Sp)(kd i:Int):Bool×Ar×List Sp:=
 if kd=0 then stepP P σ sp i else if kd=1 then(turnB sp i 0,σ,turnS sp i 0 1)else if kd=2 then(turnB sp i 10,σ,turnS sp i 10 11)
 else if kd=3 then((aloneP P σ sp i).1,(aloneP P σ sp i).2,sp)else(false,σ,sp)
def inn (s:Sp):Prop:=s.pc=10∨s.pc=11
def inq (s:Sp):Prop:=s.pc=3∨inn s
def Chain (sp:List Sp):Int→List Int→Prop
 |_,[]=>True
 |z,i::q=>(spOf sp i).b=z∧Chain sp (spOf sp i).a q
def lastA (sp:List Sp):Int→List Int→Int
 |z,[]=>z
 |_,i::q=>lastA sp (spOf sp i).a q
theorem Chain.same {sp sp':List Sp}{z:Int}{q:List Int}(h:Chain sp z q)(he:∀j,j∈q→(spOf sp' j).a=(spOf sp j).a∧(spOf sp' j).b=(spOf sp j).b):Chain sp' z q:=by
 induction q generalizing z with
 |nil=>trivial
 |cons i q ih=>
  obtain⟨h1,h2⟩:=h;have e:=he i (by simp);refine⟨by rw[e.2];exact h1,?_⟩;rw[e.1];exact ih h2 (fun j hj=>he j (by simp[hj]))
theorem lastA_same {sp sp':List Sp}{z:Int}{q:List Int}(he:∀j,j∈q→(spOf sp' j).a=(spOf sp j).a):lastA sp' z q=lastA sp z q:=by
 induction q generalizing z with
 |nil=>rfl
 |cons i q ih=>
  show lastA sp' (spOf sp' i).a q=lastA sp (spOf sp i).a q;rw[he i (by simp)];exact ih (fun j hj=>he j (by simp[hj]))
theorem Chain.push {sp:List Sp}{z:Int}{q:List Int}{i:Int}(h:Chain sp z q)(hb:(spOf sp i).b=lastA sp z q):Chain sp z (q++ [i]):=by
 induction q generalizing z with
 |nil=>exact⟨hb,trivial⟩
 |cons j q ih=>exact⟨h.1,ih h.2 hb⟩
theorem lastA_push (sp:List Sp)(z:Int)(q:List Int)(i:Int):lastA sp z (q++ [i])=(spOf sp i).a:=by
 induction q generalizing z with
 |nil=>rfl
 |cons j q ih=>exact ih _
theorem lastA_mem (sp:List Sp)(z:Int)(q:List Int):(q=[]∧lastA sp z q=z)∨∃j,j∈q∧q.getLast? =some j∧lastA sp z q=(spOf sp j).a:=by
 induction q generalizing z with
 |nil=>exact .inl ⟨rfl,rfl⟩
 |cons i q ih=>
  right;rcases ih (spOf sp i).a with⟨e,h⟩|⟨j,j1,j2,j3⟩
  ·subst e
   exact⟨i,by simp,rfl,h⟩
  ·refine⟨j,by simp[j1],?_,j3⟩
   cases q with
   |nil=>simp at j1
   |cons k q=>rw[List.getLast?_cons_cons];exact j2
theorem Chain.not_first {sp:List Sp}{z:Int}{q:List Int}(h:Chain sp z q){i:Int}(hi:i∈q):(q.head? =some i∧(spOf sp i).b=z)∨∃j,j∈q∧(spOf sp i).b=(spOf sp j).a:=by
 induction q generalizing z with
 |nil=>simp at hi
 |cons k q ih=>
  rcases List.mem_cons.1 hi with rfl|hi
  ·exact .inl ⟨rfl,h.1⟩
  ·rcases ih h.2 hi with⟨_,e⟩|⟨j,j1,j2⟩
   ·exact .inr ⟨k,by simp,e⟩
   ·exact .inr ⟨j,by simp[j1],j2⟩
structure Inv (P:Par)(σ:Ar)(sp:List Sp)(z:Int)(q:List Int):Prop where
 hl:σ.t≤σ.ws.length
 t1:1≤P.tail
 t2:P.tail+sp.length+1≤σ.t
 zr:1≤z∧z≤sp.length+1
 ar:∀i:Int,0≤i→i<sp.length→1≤(spOf sp i).a∧(spOf sp i).a≤sp.length+1
 br:∀i,0≤(spOf sp i).b∧(spOf sp i).b≤sp.length+1
 pcs:∀i,(spOf sp i).pc=0∨(spOf sp i).pc=1∨(spOf sp i).pc=2∨inq (spOf sp i)
 mem:∀i,i∈q↔inq (spOf sp i)
 nd:q.Nodup
 first:∀i,inn (spOf sp i)→q.head? =some i
 inj:∀i j:Int,0≤i→i<sp.length→0≤j→j<sp.length→(spOf sp i).a=(spOf sp j).a→i=j
 nz:∀i:Int,0≤i→i<sp.length→(spOf sp i).a≠z
 ch:Chain sp z q
 gz:σ.get (box P z)=0
 g1:∀i,(spOf sp i).pc=2∨inq (spOf sp i)→σ.get (box P (spOf sp i).a)=1
 gT:σ.get P.tail=lastA sp z q
theorem inq_range {sp:List Sp}{i:Int}(h:inq (spOf sp i)):0≤i∧i<sp.length:=spOf_range (by unfold inq inn at h;omega)
section
variable {P:Par}{σ:Ar}{sp:List Sp}{z:Int}{q:List Int}(h:Inv P σ sp z q)
include h
theorem Inv.has (n:Int)(h0:0≤n)(h1:n≤sp.length+1):σ.has (box P n)=true:=by
 have:=h.t1;have:=h.t2;unfold Ar.has box;rw[decide_eq_true (by omega),decide_eq_true (by omega)];rfl
theorem Inv.hasT:σ.has P.tail=true:=by
 have:=h.has 0 (by omega) (by omega);simpa[box]using this
theorem Inv.hasA (i:Int)(hi:(spOf sp i).pc≠0):σ.has (box P (spOf sp i).a)=true:=by
 obtain⟨i0,i1⟩:=spOf_range hi;have:=h.ar i i0 i1;exact h.has _ (by omega) (by omega)
theorem Inv.read (p v:Int):Inv P (σ.op 1 p false v) sp z q:=by
 refine {h with hl:= ?_,t2:= ?_,gz:= ?_,g1:= ?_,gT:= ?_}
 ·rw[op_t,op_len];exact h.hl
 ·rw[op_t];exact h.t2
 ·rw[get_read σ h.hl];exact h.gz
 ·intro i hi
  rw[get_read σ h.hl];exact h.g1 i hi
 ·rw[get_read σ h.hl];exact h.gT
theorem Inv.turns {sp':List Sp}(hlen:sp'.length=sp.length)(i:Int)(s':Sp)(hs:∀j,spOf sp' j=if j=i then s' else spOf sp j)(ha:s'.a=(spOf sp i).a)(hb:s'.b=(spOf sp i).b)(hp:s'.pc=0∨s'.pc=1∨s'.pc=2∨inq s')
 (hq:inq s'↔inq (spOf sp i)) (hn:inn s'→q.head? =some i) (h2:s'.pc=2→σ.get (box P (spOf sp i).a)=1):Inv P σ sp' z q:=by
 have hA:∀j,(spOf sp' j).a=(spOf sp j).a:=by
  intro j;rw[hs];split
  ·rename_i e;subst e;exact ha
  ·rfl
 have hB:∀j,(spOf sp' j).b=(spOf sp j).b:=by
  intro j;rw[hs];split
  ·rename_i e;subst e;exact hb
  ·rfl
 have hQ:∀j,inq (spOf sp' j)↔inq (spOf sp j):=by
  intro j;rw[hs];split
  ·rename_i e;subst e;exact hq
  ·exact Iff.rfl
 refine {hl:=h.hl,t1:=h.t1,nd:=h.nd,gz:=h.gz,t2:= ?_,zr:= ?_,ar:= ?_,br:= ?_,pcs:= ?_,mem:= ?_,first:= ?_,inj:= ?_,nz:= ?_,ch:= ?_,g1:= ?_,gT:= ?_}
 ·rw[hlen];exact h.t2
 ·rw[hlen];exact h.zr
 ·intro j;rw[hA,hlen];exact h.ar j
 ·intro j;rw[hB,hlen];exact h.br j
 ·intro j;rw[hs];split
  ·exact hp
  ·exact h.pcs j
 ·intro j;rw[hQ];exact h.mem j
 ·intro j hj
  rw[hs]at hj;split at hj
  ·rename_i e;subst e;exact hn hj
  ·exact h.first j hj
 ·intro j k;rw[hA,hA,hlen];exact h.inj j k
 ·intro j;rw[hA,hlen];exact h.nz j
 ·exact h.ch.same (fun j _=>⟨hA j,hB j⟩)
 ·intro j hj
  rw[hA];rw[hs]at hj;split at hj
  ·rename_i e;subst e
   rcases hj with hj|hj
   ·exact h2 hj
   ·exact h.g1 j (.inr (hq.1 hj))
  ·exact h.g1 j hj
 ·rw[lastA_same (fun j _=>hA j)];exact h.gT
theorem Inv.lays (i:Int)(i0:0≤i)(i1:i<sp.length)(v:Int)(hv:((spOf sp i).pc=2∨inq (spOf sp i))→v=1)(hT:(spOf sp i).a≠0):Inv P (σ.op 2 (box P (spOf sp i).a) true v) sp z q∧(σ.op 2 (box P (spOf sp i).a) true v).get (box P (spOf sp i).a)=v:=by
 have hr:=h.ar i i0 i1;have hh:=h.has (spOf sp i).a (by omega) (by omega);have hg:=fun p=>get_op σ h.hl 2 (box P (spOf sp i).a) v true p;simp only[hh,true_and]at hg;refine⟨{h with hl:= ?_,t2:= ?_,gz:= ?_,g1:= ?_,gT:= ?_},by rw[hg,if_pos rfl]⟩
 ·rw[op_t,op_len];exact h.hl
 ·rw[op_t];exact h.t2
 ·rw[hg,if_neg (by have:=h.nz i i0 i1;unfold box;omega)];exact h.gz
 ·intro j hj
  rw[hg];split
  ·rename_i e
   obtain⟨j0,j1⟩:=spOf_range (sp:=sp) (i:=j) (by unfold inq inn at hj;omega);have:=h.inj j i j0 j1 i0 i1 (by unfold box at e;omega);subst this;exact hv hj
  ·exact h.g1 j hj
 ·rw[hg,if_neg (by unfold box;omega)];exact h.gT
theorem Inv.takes {sp':List Sp}(hlen:sp'.length=sp.length)(i:Int)(h2:(spOf sp i).pc=2)(hs:∀j,spOf sp' j=if j=i then {spOf sp i with pc:=3,b:=σ.get P.tail}else spOf sp j):Inv P (σ.op 3 P.tail true (spOf sp i).a) sp' z (q++ [i]):=by
 obtain⟨i0,i1⟩:=spOf_range (sp:=sp) (i:=i) (by omega);have hni:i∉q:=fun hi=>by have:=(h.mem i).1 hi;unfold inq inn at this;omega
 have hA:∀j,(spOf sp' j).a=(spOf sp j).a:=by
  intro j;rw[hs];split
  ·rename_i e;subst e;rfl
  ·rfl
 have hO:∀j,j∈q→spOf sp' j=spOf sp j:=by
  intro j hj;have e:j≠i:=fun e=>hni (e▸hj);rw[hs,if_neg e]
 have hr:=h.ar i i0 i1;have hg:=fun p=>get_op σ h.hl 3 P.tail (spOf sp i).a true p;simp only[h.hasT,true_and]at hg
 have hlast:(spOf sp' i).b=lastA sp' z q:=by
  rw[hs,if_pos rfl,lastA_same (fun j hj=>hA j)];exact h.gT
 refine {t1:=h.t1,hl:= ?_,nd:= ?_,gz:= ?_,t2:= ?_,zr:= ?_,ar:= ?_,br:= ?_,pcs:= ?_,mem:= ?_,first:= ?_,inj:= ?_,nz:= ?_,ch:= ?_,g1:= ?_,gT:= ?_}
 ·rw[op_t,op_len];exact h.hl
 ·rw[hlen,op_t];exact h.t2
 ·rw[hlen];exact h.zr
 ·intro j;rw[hA,hlen];exact h.ar j
 ·intro j;rw[hs,hlen];split
  ·show 0≤σ.get P.tail∧σ.get P.tail≤_
   rw[h.gT];have hz:=h.zr;rcases lastA_mem sp z q with⟨_,e⟩|⟨k,k1,_,e⟩
   ·rw[e];omega
   ·rw[e]
    obtain⟨k0,k2⟩:=inq_range ((h.mem k).1 k1);have:=h.ar k k0 k2;omega
  ·exact h.br j
 ·intro j;rw[hs];split
  ·exact .inr (.inr (.inr (.inl rfl)))
  ·exact h.pcs j
 ·intro j
  rw[List.mem_append,List.mem_singleton,hs];by_cases e:j=i
  ·rw[if_pos e]
   exact⟨fun _=> .inl rfl,fun _=> .inr e⟩
  ·rw[if_neg e]
   exact⟨fun hj=>hj.elim (h.mem j).1 (fun e'=>absurd e' e),fun hj=> .inl ((h.mem j).2 hj)⟩
 ·rw[List.nodup_append]
  refine⟨h.nd,by simp,fun a ha b hb e=> ?_⟩;simp at hb;subst hb;exact hni (e▸ha)
 ·intro j hj
  rw[hs]at hj;split at hj
  ·unfold inn at hj;simp at hj
  ·have:=h.first j hj
   cases q with
   |nil=>simp at this
   |cons k q=>simpa using this
 ·intro j k;rw[hA,hA,hlen];exact h.inj j k
 ·intro j;rw[hA,hlen];exact h.nz j
 ·exact(h.ch.same (fun j hj=>by rw[hO j hj];exact⟨rfl,rfl⟩)).push hlast
 ·rw[hg,if_neg (by have:=h.zr;unfold box;omega)];exact h.gz
 ·intro j hj
  rw[hA]
  have hj2:(spOf sp j).pc=2∨inq (spOf sp j):=by
   rw[hs]at hj;split at hj
   ·rename_i e;subst e;exact .inl h2
   ·exact hj
  obtain⟨j0,j1⟩:=spOf_range (sp:=sp) (i:=j) (by unfold inq inn at hj2;omega);rw[hg,if_neg (by have:=h.ar j j0 j1;unfold box;omega)];exact h.g1 j hj2
 ·rw[lastA_push,hA,hg,if_pos rfl]
theorem Inv.head (i:Int)(h3:inq (spOf sp i))(hg:σ.get (box P (spOf sp i).b)=0):q.head? =some i:=by
 rcases h.ch.not_first ((h.mem i).2 h3)with⟨e,_⟩|⟨j,j1,j2⟩
 ·exact e
 ·have:=h.g1 j (.inr ((h.mem j).1 j1))
  rw[j2]at hg;omega
theorem Inv.leaves {sp':List Sp}(hlen:sp'.length=sp.length)(i:Int)(h11:(spOf sp i).pc=11)(hs:∀j,spOf sp' j=if j=i then {spOf sp i with pc:=0,a:=(spOf sp i).b}else spOf sp j):Inv P (σ.op 2 (box P (spOf sp i).a) true 0) sp' (spOf sp i).a q.tail:=by
 obtain⟨i0,i1⟩:=spOf_range (sp:=sp) (i:=i) (by omega);have hf:=h.first i (.inr h11);cases q with
 |nil=>simp at hf
 |cons k q=>
  obtain rfl:k=i:=by simpa using hf
  have hnd:=h.nd;rw[List.nodup_cons]at hnd;obtain⟨hkq,hnd⟩:=hnd;obtain⟨hb,hch⟩:=h.ch;have hr:=h.ar k i0 i1;have hz:=h.zr;have hh:=h.has (spOf sp k).a (by omega) (by omega);have hg:=fun p=>get_op σ h.hl 2 (box P (spOf sp k).a) 0 true p;simp only[hh,true_and]at hg;have hO:∀j,j≠k→spOf sp' j=spOf sp j:=fun j e=>by rw[hs,if_neg e]
  have hK:spOf sp' k={spOf sp k with pc:=0,a:=z}:=by rw[hs,if_pos rfl,hb]
  have hKa:(spOf sp' k).a=z:=by rw[hK]
  refine {t1:=h.t1,nd:=hnd,hl:= ?_,gz:= ?_,t2:= ?_,zr:= ?_,ar:= ?_,br:= ?_,pcs:= ?_,mem:= ?_,first:= ?_,inj:= ?_,nz:= ?_,ch:= ?_,g1:= ?_,gT:= ?_}
  ·rw[op_t,op_len];exact h.hl
  ·rw[hlen,op_t];exact h.t2
  ·rw[hlen];exact hr
  ·intro j j0 j1
   rw[hlen]at j1;by_cases e:j=k
   ·subst e;rw[hKa,hlen];exact hz
   ·rw[hO j e,hlen];exact h.ar j j0 j1
  ·intro j
   by_cases e:j=k
   ·subst e;rw[hK,hlen];exact h.br j
   ·rw[hO j e,hlen];exact h.br j
  ·intro j
   by_cases e:j=k
   ·subst e;rw[hK];exact .inl rfl
   ·rw[hO j e];exact h.pcs j
  ·intro j
   by_cases e:j=k
   ·subst e
    rw[hK];exact⟨fun hj=>absurd hj hkq,fun hj=>by unfold inq inn at hj;simp at hj⟩
   ·rw[hO j e,←h.mem j]
    simp[e]
  ·intro j hj
   by_cases e:j=k
   ·subst e;rw[hK]at hj;unfold inn at hj;simp at hj
   ·rw[hO j e]at hj
    have:=h.first j hj;simp at this;exact absurd this.symm e
  ·intro j l j0 j1 l0 l1 e
   rw[hlen]at j1 l1;by_cases ej:j=k
   ·by_cases el:l=k
    ·rw[ej,el]
    ·rw[ej,hKa,hO l el]at e
     exact absurd e.symm (h.nz l l0 l1)
   ·by_cases el:l=k
    ·rw[el,hKa,hO j ej]at e
     exact absurd e (h.nz j j0 j1)
    ·rw[hO j ej,hO l el]at e
     exact h.inj j l j0 j1 l0 l1 e
  ·intro j j0 j1
   rw[hlen]at j1;by_cases e:j=k
   ·rw[e,hKa];exact fun e2=>h.nz k i0 i1 e2.symm
   ·rw[hO j e];exact fun e2=>e (h.inj j k j0 j1 i0 i1 e2)
  ·exact hch.same (fun j hj=>by rw[hO j (fun e=>hkq (e▸hj))];exact⟨rfl,rfl⟩)
  ·rw[hg,if_pos rfl]
  ·intro j hj
   have e:j≠k:=by rintro rfl;rw[hK]at hj;unfold inq inn at hj;simp at hj
   rw[hO j e]at hj⊢;obtain⟨j0,j1⟩:=spOf_range (sp:=sp) (i:=j) (by unfold inq inn at hj;omega);rw[hg,if_neg (by intro e2;exact e (h.inj j k j0 j1 i0 i1 (by unfold box at e2;omega)))];exact h.g1 j hj
  ·rw[hg,if_neg (by unfold box;omega),h.gT]
   show lastA sp (spOf sp k).a q=_;exact(lastA_same (fun j hj=>by rw[hO j (fun e=>hkq (e▸hj))])).symm
end
end Go.Proofs.YtfmiioddhpkdkaaGreat.Cl
