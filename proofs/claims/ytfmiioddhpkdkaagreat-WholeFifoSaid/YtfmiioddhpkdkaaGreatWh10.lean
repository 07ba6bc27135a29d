/- Merged texts: Pt1, Pt2, Pt3, Pt4, Pt5, Fl1, Fl2. -/
import Derived.Test.YtfmiioddhpkdkaaGreatWh9
import Derived.Deep.RegionHeld3
set_option linter.unusedVariables false
set_option linter.unusedSimpArgs false
namespace Go.Proofs.YtfmiioddhpkdkaaGreat.Pt
open Go.RowKit Go.Proofs.YtfmiioddhpkdkaaGreat.Ara Go.Proofs.YtfmiioddhpkdkaaGreat.Lok
def LkAt (W:World)(gl ga ha hs:Nat)(P:Par)(σ:Ar)(sp:List Sp):Prop:=
 ArAt W ga ha σ∧SpAt W hs sp∧sp.length≤32∧(∃c:Nat,W.heap[gl]? =some (.cells #[.pointer (some ⟨ga,0,none⟩),.int .i64 P.next,.int .i64 P.parts,.slice (some ⟨hs,0,none⟩) sp.length c] 269 (0,0)))∧gl≠ga∧gl≠ha∧gl≠hs∧hs≠ga∧hs≠ha
theorem LkAt.mod {S:List Nat}{W W':World}{gl ga ha hs:Nat}{P:Par}{σ:Ar}{sp:List Sp}(k:LkAt W gl ga ha hs P σ sp)(hm:Mod S W W')(h1:gl∉S)(h2:ga∉S)(h3:ha∉S)(h4:hs∉S):LkAt W' gl ga ha hs P σ sp:=by
 obtain⟨k1,k2,k3,⟨c,k4⟩,k5⟩:=k;exact⟨k1.mod hm h2 h3,k2.mod hm h4,k3,⟨c,hm.blk k4 h1⟩,k5⟩
theorem LkAt.same {W W':World}{gl ga ha hs:Nat}{P:Par}{σ:Ar}{sp:List Sp}(k:LkAt W gl ga ha hs P σ sp)(hb:Below W.heap.size W W'):LkAt W' gl ga ha hs P σ sp:=
 k.mod (S:=[]) (Mod.of_below hb) (by simp) (by simp) (by simp) (by simp)
theorem LkAt.drewN {W:World}{gl ga ha hs:Nat}{P:Par}{σ:Ar}{sp:List Sp}(k:LkAt W gl ga ha hs P σ sp)(n:Nat):LkAt (W.drewN n) gl ga ha hs P σ sp:=k
theorem LkAt.arena {W W':World}{gl ga ha hs:Nat}{P:Par}{σ σ':Ar}{sp:List Sp}(k:LkAt W gl ga ha hs P σ sp)(ha':ArAt W' ga ha σ')(hm:Mod [ga,ha] W W'):LkAt W' gl ga ha hs P σ' sp:=by
 obtain⟨_,k2,k3,⟨c,k4⟩,d1,d2,d3,d4,d5⟩:=k;exact⟨ha',k2.mod hm (by simp;omega),k3,⟨c,hm.blk k4 (by simp;omega)⟩,d1,d2,d3,d4,d5⟩
theorem LkAt.spots {W W':World}{gl ga ha hs:Nat}{P:Par}{σ:Ar}{sp sp':List Sp}(k:LkAt W gl ga ha hs P σ sp)(hs':SpAt W' hs sp')(hm:Mod [hs] W W')(hl:sp'.length=sp.length):LkAt W' gl ga ha hs P σ sp':=by
 obtain⟨k1,_,k3,⟨c,k4⟩,d1,d2,d3,d4,d5⟩:=k;refine⟨k1.mod hm (by simp;omega) (by simp;omega),hs',by omega,⟨c,?_⟩,d1,d2,d3,d4,d5⟩;have:=hm.blk k4 (by simp;omega);rw[hl];exact this
theorem LkAt.heads {W:World}{gl ga ha hs:Nat}{P:Par}{σ:Ar}{sp:List Sp}(k:LkAt W gl ga ha hs P σ sp):(∃c:Nat,W.cell? ⟨gl,0,none⟩=some (.pointer (some ⟨ga,0,none⟩))∧W.cell? ⟨gl,1,none⟩=some (.int .i64 P.next)∧W.cell? ⟨gl,2,none⟩=some (.int .i64 P.parts)∧W.cell? ⟨gl,3,none⟩=some (.slice (some ⟨hs,0,none⟩) sp.length c))∧sp.length≤32:=by
 obtain⟨_,_,k3,⟨c,k4⟩,_⟩:=k;exact⟨⟨c,blk_cell k4 0 (by simp),blk_cell k4 1 (by simp),blk_cell k4 2 (by simp),blk_cell k4 3 (by simp)⟩,k3⟩
section
variable(gl ga ha hs:Nat)(P:Par)(σ:Ar)(sp:List Sp)(w:World)(H:LkAt w gl ga ha hs P σ sp)
include H
theorem slots_lk:Calls Tryz.prog 358 #[.pointer (some ⟨gl,0,none⟩)] w fun e w'=>e= .returned (.int .i64 sp.length)∧w'=w:=by
 obtain⟨⟨cc,q0,q1,q2,q3⟩,hl⟩:=H.heads;clear H;go_enter Tryz.func358,Tryz.ntmps358;go_wp2_with fail;go_ret;exact⟨rfl,rfl⟩
theorem spot_out_lk (i:Int)(hi:i<0∨(sp.length:Int)≤i):Calls Tryz.prog 364 #[.pointer (some ⟨gl,0,none⟩),.int .i64 i] w fun e w'=>e= .returned (.pointer none)∧w'=w:=by
 have HS:=Lib.hid (slots_lk gl ga ha hs P σ sp w H);obtain⟨⟨cc,q0,q1,q2,q3⟩,hl⟩:=H.heads;clear H;by_cases h0:i<0
 ·go_enter Tryz.func364,Tryz.ntmps364
  go_wp2_with fail;go_ret;exact⟨rfl,rfl⟩
 ·have h1:(sp.length:Int)≤i:=by omega
  go_enter Tryz.func364,Tryz.ntmps364;go_wp2_with fail;refine(HS.out).mono ?_;rintro e wx ⟨rfl,hwx⟩;obtain rfl:=hwx.symm;go_wp2_with fail;go_ret;exact⟨rfl,rfl⟩
theorem spot_in_lk (k:Nat)(hk:k<sp.length):Calls Tryz.prog 364 #[.pointer (some ⟨gl,0,none⟩),.int .i64 (k:Int)] w fun e w'=>e= .returned (.pointer (some ⟨hs,k*4,none⟩))∧w'=w:=by
 have HS:=Lib.hid (slots_lk gl ga ha hs P σ sp w H);obtain⟨⟨cc,q0,q1,q2,q3⟩,hl⟩:=H.heads;have h1:(k:Int)<(sp.length:Int):=by omega
 have h2:(0:Int)≤(k:Int):=by omega
 clear H;go_enter Tryz.func364,Tryz.ntmps364;go_wp2_with fail;refine(HS.out).mono ?_;rintro e wx ⟨rfl,hwx⟩;obtain rfl:=hwx.symm;go_wp2_with fail;go_ret;exact⟨rfl,rfl⟩
theorem Spot_lk (i:Int):Calls Tryz.prog 359 #[.pointer (some ⟨gl,0,none⟩),.int .i64 i] w fun e w'=>e= .returned (.agg #[.int .i64 (spOf sp i).pc,.int .i64 (spOf sp i).a,.int .i64 (spOf sp i).b,.int .i64 (spOf sp i).c])∧Below w.heap.size w w':=by
 by_cases hi:i<0∨(sp.length:Int)≤i
 ·rw[spOf_out hi]
  have HS:=Lib.hid (fun W K=>spot_out_lk gl ga ha hs P σ sp W K i hi);have HH:=Lib.hid (H.same (below_new w (.cells #[.int .i64 0,.int .i64 0,.int .i64 0,.int .i64 0] 134)));clear H hi;go_enter Tryz.func359,Tryz.ntmps359;go_wp2_with fail;refine(HS.out _ HH.out).mono ?_;rintro e wx ⟨rfl,hwx⟩;obtain rfl:=hwx.symm;go_wp2_with fail;exact bodyPost_ret (v:= .agg #[.int .i64 0,.int .i64 0,.int .i64 0,.int .i64 0]) (by simp[results,Tryz.results359,go_sem]) rfl ⟨rfl,(Below.refl _ _).alloc (Nat.le_refl _) _⟩
 ·obtain⟨k,rfl⟩:=Int.eq_ofNat_of_zero_le (show 0≤i by omega)
  have hk:k<sp.length:=by omega
  have HS:=Lib.hid (fun W K=>spot_in_lk gl ga ha hs P σ sp W K k hk);have HH:=Lib.hid (H.same (below_new w (.cells #[.int .i64 0,.int .i64 0,.int .i64 0,.int .i64 0] 134)));obtain⟨c0,c1,c2,c3,_⟩:=H.2.1.cells k hk;have hlt:=H.2.1.lt;have e0:=spOf_in hk;rw[e0];clear H hi e0;generalize sp[k]=s at*;obtain⟨xp,xa,xb,xc⟩:=s;simp only at c0 c1 c2 c3⊢;go_enter Tryz.func359,Tryz.ntmps359;go_wp2_with fail;refine(HS.out _ HH.out).mono ?_;rintro e wx ⟨rfl,hwx⟩;obtain rfl:=hwx.symm;go_wp2_with fail;exact bodyPost_ret (v:= .agg #[.int .i64 xp,.int .i64 xa,.int .i64 xb,.int .i64 xc]) (by simp[results,Tryz.results359,go_sem]) rfl ⟨rfl,(Below.refl _ _).alloc (Nat.le_refl _) _⟩
theorem turn_lk (i fr tO:Int):Calls Tryz.prog 363 #[.pointer (some ⟨gl,0,none⟩),.int .i64 i,.int .i64 fr,.int .i64 tO] w fun e w'=>e= .returned (.bool (turnB sp i fr))∧LkAt w' gl ga ha hs P σ (turnS sp i fr tO)∧Mod [hs] w w':=by
 by_cases hi:i<0∨(sp.length:Int)≤i
 ·rw[turn_out hi,turnS_out hi]
  have HS:=Lib.hid (spot_out_lk gl ga ha hs P σ sp w H i hi);have HH:=Lib.hid H;clear H hi;go_enter Tryz.func363,Tryz.ntmps363;go_wp2_with fail;refine(HS.out).mono ?_;rintro e wx ⟨rfl,hwx⟩;obtain rfl:=hwx.symm;go_wp2_with fail;go_ret;exact⟨rfl,HH.out,Mod.refl _ _⟩
 ·obtain⟨k,rfl⟩:=Int.eq_ofNat_of_zero_le (show 0≤i by omega)
  have hk:k<sp.length:=by omega
  have HS:=Lib.hid (spot_in_lk gl ga ha hs P σ sp w H k hk);have c0:=(H.2.1.cells k hk).1;have f0:=(H.2.1.cells k hk).2.2.2.2 (k*4);have HH:=Lib.hid H;have hm:Mod [hs] w (w.setCell ⟨hs,k*4,none⟩ (.int .i64 tO)):=(Mod.refl _ _).setCell (by simp) _;have HT:=Lib.hid (H.spots (H.2.1.setPc k hk tO) hm (by rw[List.length_set]));rw[turn_in hk,turnS_in hk];by_cases hp:sp[k].pc=fr
  ·rw[if_pos hp,beq_iff_eq.2 hp]
   rw[hp]at c0;have e1:=ibne_no (rfl:fr=fr);generalize sp.set k {sp[k]with pc:=tO}=sp2 at*;clear H hi hp hk;go_enter Tryz.func363,Tryz.ntmps363;go_wp2_with fail;refine(HS.out).mono ?_;rintro e wx ⟨rfl,hwx⟩;obtain rfl:=hwx.symm;go_wp2_with fail;go_ret;exact⟨rfl,HT.out,hm⟩
  ·rw[if_neg hp,beq_eq_false_iff_ne.2 hp]
   have e1:=ibne hp;generalize sp[k].pc=x at*;clear H hi hp HT hm hk f0;go_enter Tryz.func363,Tryz.ntmps363;go_wp2_with fail;refine(HS.out).mono ?_;rintro e wx ⟨rfl,hwx⟩;obtain rfl:=hwx.symm;go_wp2_with fail;go_ret;exact⟨rfl,HH.out,Mod.refl _ _⟩
theorem Ask_lk (i:Int):Calls Tryz.prog 356 #[.pointer (some ⟨gl,0,none⟩),.int .i64 i] w fun e w'=>e= .returned (.bool (turnB sp i 0))∧LkAt w' gl ga ha hs P σ (turnS sp i 0 1)∧Mod [hs] w w':=by
 have HT:=Lib.hid (turn_lk gl ga ha hs P σ sp w H i 0 1);clear H;generalize turnB sp i 0=b at*;generalize turnS sp i 0 1=sp2 at*;go_enter Tryz.func356,Tryz.ntmps356;go_wp2_with fail;refine HT.out.mono ?_;rintro e w2 ⟨rfl,h2,hm⟩;go_wp2_with fail;go_ret;exact⟨rfl,h2,hm⟩
theorem Leave_lk (i:Int):Calls Tryz.prog 357 #[.pointer (some ⟨gl,0,none⟩),.int .i64 i] w fun e w'=>e= .returned (.bool (turnB sp i 10))∧LkAt w' gl ga ha hs P σ (turnS sp i 10 11)∧Mod [hs] w w':=by
 have HT:=Lib.hid (turn_lk gl ga ha hs P σ sp w H i 10 11);clear H;generalize turnB sp i 10=b at*;generalize turnS sp i 10 11=sp2 at*;go_enter Tryz.func357,Tryz.ntmps357;go_wp2_with fail;refine HT.out.mono ?_;rintro e w2 ⟨rfl,h2,hm⟩;go_wp2_with fail;go_ret;exact⟨rfl,h2,hm⟩
end
end Go.Proofs.YtfmiioddhpkdkaaGreat.Pt
namespace Go.Proofs.YtfmiioddhpkdkaaGreat.Pt
open Go.RowKit Go.Proofs.YtfmiioddhpkdkaaGreat.Ara Go.Proofs.YtfmiioddhpkdkaaGreat.Lok
def POk (P:Par):Prop:=1≤P.parts∧P.parts≤32∧1≤P.next∧P.next≤4096
section
variable(gl ga ha hs:Nat)(P:Par)(σ:Ar)(sp:List Sp)(w:World)(H:LkAt w gl ga ha hs P σ sp)(hP:POk P)
include H hP
set_option maxRecDepth 100000 in
theorem place_lk (t:Int)(t0:0≤t)(t1:t≤2000000):Calls Tryz.prog 110 #[.pointer (some ⟨gl,0,none⟩),.int .i64 t] w fun e w'=>e= .returned (.int .i64 (place P t))∧∃n,w'=w.drewN n:=by
 obtain⟨⟨cc,q0,q1,q2,q3⟩,hl⟩:=H.heads;obtain⟨p1,p2,p3,p4⟩:=hP;unfold place;have m0:0≤t%P.parts:=Int.emod_nonneg _ (by omega);have m1:t%P.parts<P.parts:=Int.emod_lt_of_pos _ (by omega);have e0:t.tmod P.parts=t%P.parts:=Int.tmod_eq_emod_of_nonneg t0;have e1:IntKind.i64.wrap (P.next+1)=P.next+1:=IntWalk.i64_in _ (by omega);have e2:IntKind.i64.wrap (t%P.parts)=t%P.parts:=IntWalk.i64_in _ (by omega);have e3:IntKind.i64.wrap (P.next+1+t%P.parts)=P.next+1+t%P.parts:=IntWalk.i64_in _ (by omega);have e4:¬P.parts=0:=by omega
 have e5:(P.parts==0)=false:=ibeq_no e4;generalize t%P.parts=m at*;clear H;go_enter Tryz.func110,Tryz.ntmps110;go_wp2_with fail;go_quiet(fail);go_wp2_with fail;go_ret;exact⟨rfl,_,rfl⟩
set_option maxRecDepth 100000 in
theorem served_lk (ho:σ.ops≤1000000)(t:Int)(t0:0≤t)(t1:t≤1000000):Calls Tryz.prog 365 #[.pointer (some ⟨gl,0,none⟩),.int .i64 t] w fun e w'=>e= .returned (.bool (σ.get (place P t)==t+1))∧LkAt w' gl ga ha hs P (σ.op 1 (place P t) false 0) sp∧Mod [ga,ha] w w':=by
 obtain⟨⟨cc,q0,q1,q2,q3⟩,hl⟩:=H.heads;obtain⟨d1,d2,d3,d4,d5⟩:=H.2.2.2.2;have HC:=Lib.hid (fun n=>place_lk gl ga ha hs P σ sp (w.drewN n) H hP t t0 (by omega));have HL:=Lib.hid (fun W K=>load_any ga ha σ W (K:LkAt W gl ga ha hs P σ sp).1 ho (place P t));have HH:=Lib.hid H;have e1:IntKind.i64.wrap (t+1)=t+1:=IntWalk.i64_in _ (by omega);clear q1 q2 q3 H;generalize place P t=p at*;generalize σ.op 1 p false 0=σ2 at*;generalize σ.get p=x at*;go_enter Tryz.func365,Tryz.ntmps365;go_wp2_with fail
 go_region_held3(fun V=>V.cell? ⟨gl,0,none⟩=some (.pointer (some ⟨ga,0,none⟩)))
  (first|exact q0|exact k2)
  (first
   |(go_at_call 110;refine(HC.out 1).mono ?_;rintro e w1 ⟨rfl,n1,rfl⟩)
   |(go_at_call 105;refine(HL.out _ (HH.out.drewN _)).mono ?_;rintro e w2 ⟨rfl,ha2,hm2⟩;have k2:=keepM hm2 (show(w.drewN _).cell? _=_ from q0) (by simp;omega)))
 go_wp2_with fail;go_ret;exact⟨rfl,(HH.out.drewN _).arena ha2 hm2,((Mod.refl _ _).drewN _).trans hm2⟩
omit hP in
set_option maxRecDepth 100000 in
theorem last_lk (ho:σ.ops≤1000000)(t:Int)(t0:0≤t)(t1:t≤1000000):Calls Tryz.prog 362 #[.pointer (some ⟨gl,0,none⟩),.int .i64 t] w fun e w'=>e= .returned (.bool (σ.get P.next==t+1))∧LkAt w' gl ga ha hs P (σ.op 1 P.next false 0) sp∧Mod [ga,ha] w w':=by
 obtain⟨⟨cc,q0,q1,q2,q3⟩,hl⟩:=H.heads;obtain⟨d1,d2,d3,d4,d5⟩:=H.2.2.2.2;have HL:=Lib.hid (fun W K=>load_any ga ha σ W (K:LkAt W gl ga ha hs P σ sp).1 ho P.next);have HH:=Lib.hid H;have e1:IntKind.i64.wrap (t+1)=t+1:=IntWalk.i64_in _ (by omega);clear q2 q3 H;generalize σ.op 1 P.next false 0=σ2 at*;generalize σ.get P.next=x at*;go_enter Tryz.func362,Tryz.ntmps362;go_wp2_with fail
 go_region_held3(fun V=>V.cell? ⟨gl,0,none⟩=some (.pointer (some ⟨ga,0,none⟩))∧V.cell? ⟨gl,1,none⟩=some (.int .i64 P.next))
  (first|exact⟨q0,q1⟩|exact k2)
  (first
   |(go_at_call 105;refine(HL.out _ (HH.out.drewN 1)).mono ?_;rintro e w2 ⟨rfl,ha2,hm2⟩;have k2:=And.intro (keepM hm2 (show(w.drewN _).cell? _=_ from q0) (by simp;omega)) (keepM hm2 (show(w.drewN _).cell? _=_ from q1) (by simp;omega))))
 go_wp2_with fail;go_ret;exact⟨rfl,(HH.out.drewN 1).arena ha2 hm2,((Mod.refl _ _).drewN _).trans hm2⟩
end
def SOk (sp:List Sp):Prop:=∀k (h:k<sp.length),0≤sp[k].a∧sp[k].a≤1000000
section
variable(gl ga ha hs:Nat)(P:Par)(σ:Ar)(sp:List Sp)(w:World)(H:LkAt w gl ga ha hs P σ sp)
include H
set_option maxRecDepth 100000 in
theorem asks_served (hP:POk P)(hS:SOk sp)(ho:σ.ops≤1000000)(i:Int):Calls Tryz.prog 361 #[.pointer (some ⟨gl,0,none⟩),.int .i64 i,.int .i64 2,.func (.func 365) #[] #[]] w fun e w'=>
 e= .returned (.bool (if(spOf sp i).pc=2 then σ.get (place P (spOf sp i).a)==(spOf sp i).a+1 else false))∧LkAt w' gl ga ha hs P (if(spOf sp i).pc=2 then σ.op 1 (place P (spOf sp i).a) false 0 else σ) sp∧Mod [ga,ha] w w':=by
 by_cases hi:i<0∨(sp.length:Int)≤i
 ·rw[spOf_out hi]
  have HS:=Lib.hid (spot_out_lk gl ga ha hs P σ sp w H i hi);have HH:=Lib.hid H;rw[if_neg (show¬sp0.pc=2 by decide),if_neg (show¬sp0.pc=2 by decide)];clear H hi;go_enter Tryz.func361,Tryz.ntmps361;go_wp2_with fail;refine(HS.out).mono ?_;rintro e wx ⟨rfl,hwx⟩;obtain rfl:=hwx.symm;go_wp2_with fail;go_ret;exact⟨rfl,HH.out,Mod.refl _ _⟩
 ·obtain⟨k,rfl⟩:=Int.eq_ofNat_of_zero_le (show 0≤i by omega)
  have hk:k<sp.length:=by omega
  have HS:=Lib.hid (spot_in_lk gl ga ha hs P σ sp w H k hk);have c0:=(H.2.1.cells k hk).1;have c1:=(H.2.1.cells k hk).2.1;obtain⟨a0,a1⟩:=hS k hk;have e0:=spOf_in hk;have HH:=Lib.hid H;rw[e0];by_cases hp:sp[k].pc=2
  ·have HC:=Lib.hid (fun W (K:LkAt W gl ga ha hs P σ sp)=>served_lk gl ga ha hs P σ sp W K hP ho sp[k].a a0 a1)
   rw[if_pos hp,if_pos hp];rw[hp]at c0;generalize sp[k].a=x at*;clear H hi e0 hk hp a0 a1;generalize(σ.get (place P x)==x+1)=y at*;generalize σ.op 1 (place P x) false 0=σ2 at*;go_enter Tryz.func361,Tryz.ntmps361;go_wp2_with fail;refine(HS.out).mono ?_;rintro e wx ⟨rfl,hwx⟩;obtain rfl:=hwx.symm;go_wp2_with fail;refine(HC.out _ HH.out).mono ?_;rintro e w2 ⟨rfl,h2,hm2⟩;go_wp2_with fail;go_ret;exact⟨rfl,h2,hm2⟩
  ·rw[if_neg hp,if_neg hp]
   have e1:=ibeq_no hp;generalize sp[k].pc=y at*;clear H hi e0 hk hp a0 a1 c1;go_enter Tryz.func361,Tryz.ntmps361;go_wp2_with fail;refine(HS.out).mono ?_;rintro e wx ⟨rfl,hwx⟩;obtain rfl:=hwx.symm;go_wp2_with fail;go_ret;exact⟨rfl,HH.out,Mod.refl _ _⟩
set_option maxRecDepth 100000 in
theorem asks_last (hS:SOk sp)(ho:σ.ops≤1000000)(i:Int):Calls Tryz.prog 361 #[.pointer (some ⟨gl,0,none⟩),.int .i64 i,.int .i64 10,.func (.func 362) #[] #[]] w fun e w'=>
 e= .returned (.bool (if(spOf sp i).pc=10 then σ.get P.next==(spOf sp i).a+1 else false))∧LkAt w' gl ga ha hs P (if(spOf sp i).pc=10 then σ.op 1 P.next false 0 else σ) sp∧Mod [ga,ha] w w':=by
 by_cases hi:i<0∨(sp.length:Int)≤i
 ·rw[spOf_out hi]
  have HS:=Lib.hid (spot_out_lk gl ga ha hs P σ sp w H i hi);have HH:=Lib.hid H;rw[if_neg (show¬sp0.pc=10 by decide),if_neg (show¬sp0.pc=10 by decide)];clear H hi;go_enter Tryz.func361,Tryz.ntmps361;go_wp2_with fail;refine(HS.out).mono ?_;rintro e wx ⟨rfl,hwx⟩;obtain rfl:=hwx.symm;go_wp2_with fail;go_ret;exact⟨rfl,HH.out,Mod.refl _ _⟩
 ·obtain⟨k,rfl⟩:=Int.eq_ofNat_of_zero_le (show 0≤i by omega)
  have hk:k<sp.length:=by omega
  have HS:=Lib.hid (spot_in_lk gl ga ha hs P σ sp w H k hk);have c0:=(H.2.1.cells k hk).1;have c1:=(H.2.1.cells k hk).2.1;obtain⟨a0,a1⟩:=hS k hk;have e0:=spOf_in hk;have HH:=Lib.hid H;rw[e0];by_cases hp:sp[k].pc=10
  ·have HC:=Lib.hid (fun W (K:LkAt W gl ga ha hs P σ sp)=>last_lk gl ga ha hs P σ sp W K ho sp[k].a a0 a1)
   rw[if_pos hp,if_pos hp];rw[hp]at c0;generalize sp[k].a=x at*;clear H hi e0 hk hp a0 a1;generalize(σ.get P.next==x+1)=y at*;generalize σ.op 1 P.next false 0=σ2 at*;go_enter Tryz.func361,Tryz.ntmps361;go_wp2_with fail;refine(HS.out).mono ?_;rintro e wx ⟨rfl,hwx⟩;obtain rfl:=hwx.symm;go_wp2_with fail;refine(HC.out _ HH.out).mono ?_;rintro e w2 ⟨rfl,h2,hm2⟩;go_wp2_with fail;go_ret;exact⟨rfl,h2,hm2⟩
  ·rw[if_neg hp,if_neg hp]
   have e1:=ibeq_no hp;generalize sp[k].pc=y at*;clear H hi e0 hk hp a0 a1 c1;go_enter Tryz.func361,Tryz.ntmps361;go_wp2_with fail;refine(HS.out).mono ?_;rintro e wx ⟨rfl,hwx⟩;obtain rfl:=hwx.symm;go_wp2_with fail;go_ret;exact⟨rfl,HH.out,Mod.refl _ _⟩
theorem alone_lk (hS:SOk sp)(ho:σ.ops≤1000000)(i:Int):Calls Tryz.prog 355 #[.pointer (some ⟨gl,0,none⟩),.int .i64 i] w fun e w'=>e= .returned (.bool (aloneP P σ sp i).1)∧LkAt w' gl ga ha hs P (aloneP P σ sp i).2 sp∧Mod [ga,ha] w w':=by
 have HC:=Lib.hid (asks_last gl ga ha hs P σ sp w H hS ho i);have e1:(aloneP P σ sp i).1=(if(spOf sp i).pc=10 then σ.get P.next==(spOf sp i).a+1 else false):=by unfold aloneP;split<;>rfl
 have e2:(aloneP P σ sp i).2=(if(spOf sp i).pc=10 then σ.op 1 P.next false 0 else σ):=by unfold aloneP;split<;>rfl
 rw[←e1,←e2]at HC;clear e1 e2 H;generalize(aloneP P σ sp i).1=b at*;generalize(aloneP P σ sp i).2=σ2 at*;go_enter Tryz.func355,Tryz.ntmps355;go_wp2_with fail;refine HC.out.mono ?_;rintro e w2 ⟨rfl,h2,hm⟩;go_wp2_with fail;go_ret;exact⟨rfl,h2,hm⟩
end
end Go.Proofs.YtfmiioddhpkdkaaGreat.Pt
namespace Go.Proofs.YtfmiioddhpkdkaaGreat.Pt
open Go.RowKit Go.Proofs.YtfmiioddhpkdkaaGreat.Ara Go.Proofs.YtfmiioddhpkdkaaGreat.Lok
theorem sfld0 (a b c d:Int)(W:World):(Instr.field 134 (.agg #[.int .i64 a,.int .i64 b,.int .i64 c,.int .i64 d]) 0).run Tryz.prog W= .ok (.int .i64 a) W:=by
 simp[Instr.field,run_underlying Tryz.underlying134,asAgg,go_sem]
theorem turn_setA (sp:List Sp)(k:Nat)(hk:k<sp.length)(fr tO x:Int)(hp:sp[k].pc=fr):turnS (sp.set k {sp[k]with a:=x}) (k:Int) fr tO=sp.set k {sp[k]with pc:=tO,a:=x}:=by
 have hk2:k<(sp.set k {sp[k]with a:=x}).length:=by rw[List.length_set];exact hk
 have e:(sp.set k {sp[k]with a:=x})[k]={sp[k]with a:=x}:=List.getElem_set_self hk2;rw[turnS_in hk2,e,if_pos hp,List.set_set]
def Num (P:Par)(σ:Ar)(sp:List Sp):Prop:=POk P∧SOk sp∧σ.ops≤1000000∧σ.has P.next=true∧0≤σ.get P.next∧σ.get P.next≤1000000
theorem LkAt.all {W W':World}{gl ga ha hs:Nat}{P:Par}{σ:Ar}{sp:List Sp}(k:LkAt W gl ga ha hs P σ sp)(n:Nat)(e:W'=W.drewN n):LkAt W' gl ga ha hs P σ sp:=by
 subst e;exact k
section
variable(gl ga ha hs:Nat)(P:Par)(σ:Ar)(sp:List Sp)(w:World)(H:LkAt w gl ga ha hs P σ sp)(hN:Num P σ sp)
include H hN
set_option maxHeartbeats 4000000 in
set_option maxRecDepth 100000 in
theorem step_one (k:Nat)(hk:k<sp.length)(hp:sp[k].pc=1):Calls Tryz.prog 360 #[.pointer (some ⟨gl,0,none⟩),.int .i64 (k:Int)] w fun e w'=>
 e= .returned (.bool false)∧LkAt w' gl ga ha hs P (σ.op 5 P.next true (σ.get P.next+1)) (sp.set k {sp[k]with pc:=2,a:=σ.get P.next})∧Mod [ga,ha,hs] w w':=by
 have HS:=Lib.hid (Spot_lk gl ga ha hs P σ sp w H (k:Int));rw[spOf_in hk,hp]at HS;generalize sp[k].a=ya at HS;generalize sp[k].b=yb at HS;generalize sp[k].c=yc at HS;obtain⟨hP,hS,ho,hh,g0,g1⟩:=hN;have q1:=fun a b c d W=>sfld0 a b c d W;have HH:=Lib.hid H;obtain⟨d1,d2,d3,d4,d5⟩:=H.2.2.2.2;have HA:=Lib.hid (fun W K=>add_any ga ha σ W K ho P.next 1);have ew:wrap64 (σ.get P.next+1)=σ.get P.next+1:=IntWalk.wrap64_in _ (by omega);rw[if_pos hh,ew]at HA;have HK:=Lib.hid hk;have HP:=Lib.hid hp;have e1:IntKind.i64.wrap (σ.get P.next+1-1)=σ.get P.next:=by rw[IntWalk.i64_in _ (by omega)];omega
 have e2:IntKind.i64.wrap (σ.get P.next)=σ.get P.next:=IntWalk.i64_in _ (by omega);have e3:(k:Int)<(sp.length:Int):=by omega
 have e4:(0:Int)≤(k:Int):=by omega
 have e5:(k:Int).toNat=k:=by omega
 have HFin:=Lib.hid (fun x=>turn_setA sp k hk 1 2 x hp);clear H hP hS ho hh ew hp;generalize σ.get P.next=x at*;generalize σ.op 5 P.next true (x+1)=σ2 at*;go_enter Tryz.func360,Tryz.ntmps360;go_wp2_with fail;refine HS.out.mono ?_;rintro e w1 ⟨rfl,hb1⟩;have hm1:Mod [ga,ha,hs] w w1:=Mod.of_below hb1;have H1:=Lib.hid (HH.out.same hb1);clear hb1;obtain⟨⟨cc,q0,r1,_,r3⟩,_⟩:=H1.out.heads;go_wp2_with fail
 go_region_held3(fun V=>V.cell? ⟨gl,0,none⟩=some (.pointer (some ⟨ga,0,none⟩))∧V.cell? ⟨gl,1,none⟩=some (.int .i64 P.next)∧V.cell? ⟨gl,3,none⟩=some (.slice (some ⟨hs,0,none⟩) sp.length cc))
  (first|exact⟨q0,r1,r3⟩|exact k2|exact k3)
  (first
   |(go_at_call 228;refine(HA.out _ (H1.out.drewN 1).1).mono ?_;rintro e w2 ⟨rfl,ha2,hm2⟩;have k2:=And.intro (keepM hm2 (show(w1.drewN _).cell? _=_ from q0) (by simp;omega)) (And.intro (keepM hm2 (show(w1.drewN _).cell? _=_ from r1) (by simp;omega)) (keepM hm2 (show(w1.drewN _).cell? _=_ from r3) (by simp;omega)));have H2:=(H1.out.drewN 1).arena ha2 hm2;have c1:=(H2.2.1.cells k hk).2.1;have f1:=(H2.2.1.cells k hk).2.2.2.2 (k*4+1);have k3:=And.intro (((World.cell?_setCell_far w2 ⟨hs,k*4+1,none⟩ ⟨gl,0,none⟩ (.int .i64 x) (by simp;omega))).trans k2.1) (And.intro (((World.cell?_setCell_far w2 ⟨hs,k*4+1,none⟩ ⟨gl,1,none⟩ (.int .i64 x) (by simp;omega))).trans k2.2.1) (((World.cell?_setCell_far w2 ⟨hs,k*4+1,none⟩ ⟨gl,3,none⟩ (.int .i64 x) (by simp;omega))).trans k2.2.2))))
 have hm3:Mod [hs] w2 (w2.setCell ⟨hs,k*4+1,none⟩ (.int .i64 x)):=(Mod.refl _ _).setCell (by simp) _;have H3:=Lib.hid (H2.spots (H2.2.1.setA k hk x) hm3 (by rw[List.length_set]));have hmm:Mod [ga,ha,hs] w (w2.setCell ⟨hs,k*4+1,none⟩ (.int .i64 x)):=((hm1.drewN 1).trans (hm2.sub (by simp))).trans (hm3.sub (by simp));clear k2 k3 H2 c1 f1 ha2 hm2 hm3 q0 r1 r3;generalize w2.setCell ⟨hs,k*4+1,none⟩ (.int .i64 x)=w3 at*;go_wp2_with fail;refine(turn_lk gl ga ha hs P σ2 _ w3 H3.out (k:Int) 1 2).mono ?_;rintro e w4 ⟨rfl,h4,hm4⟩;rw[HFin.out x]at h4;have H4:=Lib.hid h4;clear h4;go_wp2_with fail;go_ret;exact⟨rfl,H4.out,hmm.trans (hm4.sub (by simp))⟩
set_option maxHeartbeats 4000000 in
set_option maxRecDepth 100000 in
theorem step_two (k:Nat)(hk:k<sp.length)(hp:sp[k].pc=2):Calls Tryz.prog 360 #[.pointer (some ⟨gl,0,none⟩),.int .i64 (k:Int)] w fun e w'=>
 e= .returned (.bool (σ.get (place P sp[k].a)==sp[k].a+1))∧LkAt w' gl ga ha hs P (σ.op 1 (place P sp[k].a) false 0) (if σ.get (place P sp[k].a)=sp[k].a+1 then sp.set k {sp[k]with pc:=10}else sp)∧Mod [ga,ha,hs] w w':=by
 have HS:=Lib.hid (Spot_lk gl ga ha hs P σ sp w H (k:Int));rw[spOf_in hk,hp]at HS;have HA:=Lib.hid (fun W (K:LkAt W gl ga ha hs P σ sp)=>asks_served gl ga ha hs P σ sp W K hN.1 hN.2.1 hN.2.2.1 (k:Int));rw[spOf_in hk,if_pos hp,if_pos hp]at HA;have HT:=Lib.hid (fun W σ2 (K:LkAt W gl ga ha hs P σ2 sp)=>turn_lk gl ga ha hs P σ2 sp W K (k:Int) 2 10);rw[turn_in hk,turnS_in hk,if_pos hp,beq_iff_eq.2 hp]at HT;have q1:=fun a b c d W=>sfld0 a b c d W;have HH:=Lib.hid H;generalize sp[k].a=ya at*;generalize sp[k].b=yb at*;generalize sp[k].c=yc at*;generalize sp.set k {sp[k]with pc:=10}=sp2 at*;generalize σ.op 1 (place P ya) false 0=σ2 at*;clear H hN hp;by_cases hg:σ.get (place P ya)=ya+1
 ·rw[if_pos hg,beq_iff_eq.2 hg]
  rw[beq_iff_eq.2 hg]at HA;clear hg;go_enter Tryz.func360,Tryz.ntmps360;go_wp2_with fail;refine HS.out.mono ?_;rintro e w1 ⟨rfl,hb1⟩;have H1:=Lib.hid (HH.out.same hb1);have hm1:Mod [ga,ha,hs] w w1:=Mod.of_below hb1;clear hb1;go_wp2_with fail;refine(HA.out _ H1.out).mono ?_;rintro e w2 ⟨rfl,h2,hm2⟩;have H2:=Lib.hid h2;clear h2;go_wp2_with fail;refine(HT.out _ _ H2.out).mono ?_;rintro e w3 ⟨rfl,h3,hm3⟩;have H3:=Lib.hid h3;clear h3;go_wp2_with fail;go_ret;exact⟨rfl,H3.out,(hm1.trans (hm2.sub (by simp))).trans (hm3.sub (by simp))⟩
 ·rw[if_neg hg,beq_eq_false_iff_ne.2 hg]
  rw[beq_eq_false_iff_ne.2 hg]at HA;clear hg;go_enter Tryz.func360,Tryz.ntmps360;go_wp2_with fail;refine HS.out.mono ?_;rintro e w1 ⟨rfl,hb1⟩;have H1:=Lib.hid (HH.out.same hb1);have hm1:Mod [ga,ha,hs] w w1:=Mod.of_below hb1;clear hb1;go_wp2_with fail;refine(HA.out _ H1.out).mono ?_;rintro e w2 ⟨rfl,h2,hm2⟩;have H2:=Lib.hid h2;clear h2;go_wp2_with fail;go_ret;exact⟨rfl,H2.out,hm1.trans (hm2.sub (by simp))⟩
set_option maxHeartbeats 4000000 in
set_option maxRecDepth 100000 in
theorem step_out (k:Nat)(hk:k<sp.length)(hp:sp[k].pc=11):Calls Tryz.prog 360 #[.pointer (some ⟨gl,0,none⟩),.int .i64 (k:Int)] w fun e w'=>
 e= .returned (.bool true)∧LkAt w' gl ga ha hs P (σ.op 2 (place P (sp[k].a+1)) true (sp[k].a+2)) (sp.set k {sp[k]with pc:=0})∧Mod [ga,ha,hs] w w':=by
 have HS:=Lib.hid (Spot_lk gl ga ha hs P σ sp w H (k:Int));rw[spOf_in hk,hp]at HS;obtain⟨a0,a1⟩:=hN.2.1 k hk;have HPl:=Lib.hid (fun W (K:LkAt W gl ga ha hs P σ sp)=>place_lk gl ga ha hs P σ sp W K hN.1 (sp[k].a+1) (by omega) (by omega));have HSt:=Lib.hid (fun W (K:LkAt W gl ga ha hs P σ sp)=>store_any ga ha σ W K.1 hN.2.2.1 (place P (sp[k].a+1)) (sp[k].a+2));have HT:=Lib.hid (fun W σ2 (K:LkAt W gl ga ha hs P σ2 sp)=>turn_lk gl ga ha hs P σ2 sp W K (k:Int) 11 0);rw[turn_in hk,turnS_in hk,if_pos hp,beq_iff_eq.2 hp]at HT;have HC:=Lib.hid (fun W (K:LkAt W gl ga ha hs P σ sp)=>(K.2.1.cells k hk).2.1);have q1:=fun a b c d W=>sfld0 a b c d W;have HH:=Lib.hid H;obtain⟨d1,d2,d3,d4,d5⟩:=H.2.2.2.2;have e3:(k:Int)<(sp.length:Int):=by omega
 have e4:(0:Int)≤(k:Int):=by omega
 have e5:(k:Int).toNat=k:=by omega
 generalize sp[k].a=ya at*;generalize sp[k].b=yb at*;generalize sp[k].c=yc at*;generalize sp.set k {sp[k]with pc:=0}=sp2 at*;have e6:IntKind.i64.wrap (ya+1)=ya+1:=IntWalk.i64_in _ (by omega);have e7:IntKind.i64.wrap (ya+2)=ya+2:=IntWalk.i64_in _ (by omega);generalize place P (ya+1)=p at*;generalize σ.op 2 p true (ya+2)=σ2 at*;clear H hN hp hk a0 a1;go_enter Tryz.func360,Tryz.ntmps360;go_wp2_with fail;refine HS.out.mono ?_;rintro e w1 ⟨rfl,hb1⟩;have H1:=Lib.hid (HH.out.same hb1);have hm1:Mod [ga,ha,hs] w w1:=Mod.of_below hb1;clear hb1;obtain⟨⟨cc,q0,_,_,r3⟩,_⟩:=H1.out.heads;have c1:=HC.out _ H1.out;go_wp2_with fail
 go_region_held3(fun V=>V.cell? ⟨gl,0,none⟩=some (.pointer (some ⟨ga,0,none⟩))∧V.cell? ⟨gl,3,none⟩=some (.slice (some ⟨hs,0,none⟩) sp.length cc)∧V.cell? ⟨hs,k*4+1,none⟩=some (.int .i64 ya))
  (first|exact⟨q0,r3,c1⟩|exact k2)
  (first
   |(go_at_call 110;refine(HPl.out _ (H1.out.drewN 1)).mono ?_;rintro e w2 ⟨rfl,n2,rfl⟩)
   |(go_at_call 109;refine(HSt.out _ (H1.out.drewN _)).mono ?_;rintro e w2 ⟨rfl,ha2,hm2⟩;have k2:=And.intro (keepM hm2 (show(w1.drewN _).cell? _=_ from q0) (by simp;omega)) (And.intro (keepM hm2 (show(w1.drewN _).cell? _=_ from r3) (by simp;omega)) (keepM hm2 (show(w1.drewN _).cell? _=_ from c1) (by simp;omega)));have H2:=Lib.hid ((H1.out.drewN _).arena ha2 hm2)))
 have hmm:Mod [ga,ha,hs] w w2:=(hm1.drewN _).trans (hm2.sub (by simp));clear k2 ha2 hm2 q0 r3 c1;go_wp2_with fail;refine(HT.out _ _ H2.out).mono ?_;rintro e w3 ⟨rfl,h3,hm3⟩;have H3:=Lib.hid h3;clear h3;go_wp2_with fail;go_ret;exact⟨rfl,H3.out,hmm.trans (hm3.sub (by simp))⟩
omit hN in
set_option maxRecDepth 100000 in
theorem step_none (i:Int)(h1:(spOf sp i).pc≠1)(h2:(spOf sp i).pc≠2)(h3:(spOf sp i).pc≠11):Calls Tryz.prog 360 #[.pointer (some ⟨gl,0,none⟩),.int .i64 i] w fun e w'=>e= .returned (.bool false)∧LkAt w' gl ga ha hs P σ sp∧Mod [ga,ha,hs] w w':=by
 have HS:=Lib.hid (Spot_lk gl ga ha hs P σ sp w H i);have q1:=fun a b c d W=>sfld0 a b c d W;have HH:=Lib.hid H;have e1:=ibeq_no h1;have e2:=ibeq_no h2;have e3:=ibeq_no h3;generalize(spOf sp i).pc=yp at*;generalize(spOf sp i).a=ya at*;generalize(spOf sp i).b=yb at*;generalize(spOf sp i).c=yc at*;clear H h1 h2 h3;go_enter Tryz.func360,Tryz.ntmps360;go_wp2_with fail;refine HS.out.mono ?_;rintro e w1 ⟨rfl,hb1⟩;go_wp2_with fail;go_ret;exact⟨rfl,HH.out.same hb1,Mod.of_below hb1⟩
theorem step_lk (i:Int):Calls Tryz.prog 360 #[.pointer (some ⟨gl,0,none⟩),.int .i64 i] w fun e w'=>e= .returned (.bool (stepP P σ sp i).1)∧LkAt w' gl ga ha hs P (stepP P σ sp i).2.1 (stepP P σ sp i).2.2∧Mod [ga,ha,hs] w w':=by
 by_cases h:(spOf sp i).pc=1∨(spOf sp i).pc=2∨(spOf sp i).pc=11
 ·obtain⟨i0,i1⟩:=spOf_range (sp:=sp) (i:=i) (by omega)
  obtain⟨k,rfl⟩:=Int.eq_ofNat_of_zero_le i0;have hk:k<sp.length:=by omega
  unfold stepP;rw[spOf_in hk]at h⊢;simp only[Int.toNat_natCast];rcases h with h|h|h
  ·rw[if_pos h]
   exact step_one gl ga ha hs P σ sp w H hN k hk h
  ·rw[if_neg (by omega),if_pos h]
   exact step_two gl ga ha hs P σ sp w H hN k hk h
  ·rw[if_neg (by omega),if_neg (by omega),if_pos h]
   exact step_out gl ga ha hs P σ sp w H hN k hk h
 ·have e:stepP P σ sp i=(false,σ,sp):=by unfold stepP;rw[if_neg (by omega),if_neg (by omega),if_neg (by omega)]
  rw[e];exact step_none gl ga ha hs P σ sp w H i (by omega) (by omega) (by omega)
end
end Go.Proofs.YtfmiioddhpkdkaaGreat.Pt
namespace Go.Proofs.YtfmiioddhpkdkaaGreat.Pt
open Go.RowKit Go.Proofs.YtfmiioddhpkdkaaGreat.Ara Go.Proofs.YtfmiioddhpkdkaaGreat.Lok
end Go.Proofs.YtfmiioddhpkdkaaGreat.Pt
namespace Go.Proofs.YtfmiioddhpkdkaaGreat.Pt
open Go.RowKit Go.Proofs.YtfmiioddhpkdkaaGreat.Ara Go.Proofs.YtfmiioddhpkdkaaGreat.Lok
theorem may_yes (n:Int)(w:World)(h1:1≤n)(h2:n≤32):Calls Tryz.prog 108 #[.int .i64 n] w fun e w'=>e= .returned (.bool true)∧w'=w:=by
 have e1:decide ((1:Int)≤n)=true:=decide_eq_true h1;have e2:decide (n≤(32:Int))=true:=decide_eq_true h2;go_enter Tryz.func108,Tryz.ntmps108;go_wp2_with fail;go_ret;exact⟨rfl,rfl⟩
theorem infoSp:(Tryz.prog.info? 134).map (fun i=>(i.zero,i.size,i.bytes))=some (some (.agg #[.int .i64 0,.int .i64 0,.int .i64 0,.int .i64 0]),4,32):=by kernel_rfl
def zeroS (n:Nat):List Sp:=List.replicate n sp0
theorem zeroS_flat (n:Nat):((List.replicate n ((Value.agg #[.int .i64 0,.int .i64 0,.int .i64 0,.int .i64 0]).cells.toList)).flatten).toArray=((zeroS n).flatMap decSp).toArray:=by
 congr 1
 induction n with
 |zero=>rfl
 |succ n ih=>rw[List.replicate_succ,List.flatten_cons,ih,zeroS,zeroS,List.replicate_succ,List.flatMap_cons];rfl
theorem make_spots (n:Nat)(h:n≤65536)(W:World):(Instr.makeSlice 173 (.int .i64 (n:Int)) (.int .i64 (n:Int))).run Tryz.prog W= .ok (.slice (some ⟨W.heap.size,0,none⟩) n n) (W.alloc (.cells ((zeroS n).flatMap decSp).toArray 134)):=by
 rw[run_make_rows (P:=Tryz.prog) 173 134 (.agg #[.int .i64 0,.int .i64 0,.int .i64 0,.int .i64 0]) 4 32 Tryz.underlying173 infoSp rfl .i64 .i64 n (by omega) (by omega) W,zeroS_flat]
theorem spAt_new (W:World)(n:Nat):SpAt (W.alloc (.cells ((zeroS n).flatMap decSp).toArray 134)) W.heap.size (zeroS n):=
 ⟨_,blk_new _ _,by rw[List.take_of_length_le (by rw[flat_len decSp_len];omega)]⟩
set_option maxHeartbeats 4000000 in
set_option maxRecDepth 100000 in
theorem new_lk (ga ha:Nat)(σ σ1:Ar)(w:World)(H:ArAt w ga ha σ)(hh:ha<w.heap.size)(n:Nat)(n1:1≤n)(n2:n≤32)(parts next:Int)(p1:1≤parts)(p2:parts≤32)(x1:1≤next)(x2:next≤4096)
 (ht:σ.take (1+parts)=((next,0),σ1)) (ho:σ1.ops≤1000000):
 Calls Tryz.prog 98 #[.pointer (some ⟨ga,0,none⟩),.int .i64 (n:Int),.int .i64 parts] w fun e w'=>∃gl hs,e= .returned (.tuple #[.pointer (some ⟨gl,0,none⟩),.int .i64 0])∧LkAt w' gl ga ha hs ⟨next,parts⟩ (σ1.op 2 (place ⟨next,parts⟩ 0) true 1) (zeroS n)∧w.heap.size≤gl∧w.heap.size≤hs∧Mod [ga,ha] w w':=by
 have HT:=Lib.hid (take_any ga ha σ w H (1+parts));rw[ht]at HT;have hmk:=fun W=>make_spots n (by omega) W;have hga:=H.lt;have HM1:=Lib.hid (fun W=>may_yes (n:Int) W (by omega) (by omega));have HM2:=Lib.hid (fun W=>may_yes parts W p1 p2);have e1:IntKind.i64.wrap (1+parts)=1+parts:=IntWalk.i64_in _ (by omega);have i1:(1:Int)≤(n:Int):=by omega
 have i2:(n:Int)≤32:=by omega
 have HO:=Lib.hid ho;clear H ht ho;go_enter Tryz.func98,Tryz.ntmps98;go_wp2_with fail;refine(HM1.out _).mono ?_;rintro e wx ⟨rfl,hwx⟩;obtain rfl:=hwx.symm;go_wp2_with fail;refine(HM2.out _).mono ?_;rintro e wx ⟨rfl,hwx⟩;obtain rfl:=hwx.symm;go_wp2_with fail;refine HT.out.mono ?_;rintro e w2 ⟨rfl,h2,hm2⟩;have H2:=Lib.hid h2;clear h2;go_wp2_with fail;have hz2:=hm2.size
 have hK:LkAt ((w2.alloc (.cells ((zeroS n).flatMap decSp).toArray 134)).alloc (.cells #[.pointer (some ⟨ga,0,none⟩),.int .i64 next,.int .i64 parts,.slice (some ⟨w2.heap.size,0,none⟩) n n] 269)) (w2.heap.size+1) ga ha w2.heap.size ⟨next,parts⟩ σ1 (zeroS n):=by
  have hb:=(below_new w2 (.cells ((zeroS n).flatMap decSp).toArray 134));have hb2:=below_new (w2.alloc (.cells ((zeroS n).flatMap decSp).toArray 134)) (.cells #[.pointer (some ⟨ga,0,none⟩),.int .i64 next,.int .i64 parts,.slice (some ⟨w2.heap.size,0,none⟩) n n] 269);have hbl:=blk_new (w2.alloc (.cells ((zeroS n).flatMap decSp).toArray 134)) (.cells #[.pointer (some ⟨ga,0,none⟩),.int .i64 next,.int .i64 parts,.slice (some ⟨w2.heap.size,0,none⟩) n n] 269);have hzl:(zeroS n).length=n:=by simp[zeroS]
  refine⟨(H2.out.step hb).step hb2,(spAt_new w2 n).mod (S:=[]) (Mod.of_below hb2) (by simp),by omega,⟨n,?_⟩,by omega,by omega,by omega,by omega,by omega⟩;rw[hzl];simpa using hbl
 have hmm:Mod [ga,ha] w ((w2.alloc (.cells ((zeroS n).flatMap decSp).toArray 134)).alloc (.cells #[.pointer (some ⟨ga,0,none⟩),.int .i64 next,.int .i64 parts,.slice (some ⟨w2.heap.size,0,none⟩) n n] 269)):=(hm2.alloc _).alloc _;have hK:=Lib.hid hK;clear H2 hm2;generalize(w2.alloc (.cells ((zeroS n).flatMap decSp).toArray 134)).alloc (.cells #[.pointer (some ⟨ga,0,none⟩),.int .i64 next,.int .i64 parts,.slice (some ⟨w2.heap.size,0,none⟩) n n] 269)=w3 at*;have HF:=Lib.hid (show w.heap.size≤w2.heap.size+1∧w.heap.size≤w2.heap.size from⟨by omega,hz2⟩);clear hz2;generalize w2.heap.size+1=gl at*;generalize w2.heap.size=hs at*;refine(place_lk gl ga ha hs ⟨next,parts⟩ σ1 _ w3 hK.out ⟨p1,p2,x1,x2⟩ 0 (by omega) (by omega)).mono ?_;rintro e w4 ⟨rfl,m4,rfl⟩;go_wp2_with fail;refine(store_any ga ha σ1 _ (hK.out.drewN m4).1 HO.out (place ⟨next,parts⟩ 0) 1).mono ?_;rintro e w5 ⟨rfl,h5,hm5⟩;have hK5:=Lib.hid ((hK.out.drewN m4).arena h5 hm5);have hm6:Mod [ga,ha] w w5:=(hmm.drewN m4).trans hm5;clear h5 hm5 hmm hK;go_wp2_with fail;go_ret2;exact⟨gl,hs,rfl,hK5.out,HF.out.1,HF.out.2,hm6⟩
end Go.Proofs.YtfmiioddhpkdkaaGreat.Pt
namespace Go.Proofs.YtfmiioddhpkdkaaGreat.Fl
open Go.RowKit Go.Proofs.YtfmiioddhpkdkaaGreat.Ara Go.Proofs.YtfmiioddhpkdkaaGreat.Lok
theorem sfld0 (a b c d:Int)(W:World):(Instr.field 134 (.agg #[.int .i64 a,.int .i64 b,.int .i64 c,.int .i64 d]) 0).run Tryz.prog W= .ok (.int .i64 a) W:=by
 simp[Instr.field,run_underlying Tryz.underlying134,asAgg,go_sem]
def NoneAt (W:World)(q:Option Addr):Prop:=q=none∨∃g,q=some ⟨g,0,none⟩∧W.cell? ⟨g,0,none⟩=some (.int .i64 0)
theorem NoneAt.same {W W':World}{q:Option Addr}(h:NoneAt W q)(hb:Below W.heap.size W W'):NoneAt W' q:=by
 rcases h with h|⟨g,h1,h2⟩
 ·exact .inl h
 ·exact .inr ⟨g,h1,keep1 hb h2⟩
section
variable(q:Option Addr)(w:World)(H:NoneAt w q)
include H
end
def FlB (W:World)(gf:Nat)(kind:Int)(T:TypeId)(v:Value):Prop:=W.heap[gf]? =some (.cells #[.int .i64 kind,.iface T v] 239 (0,0))
section
variable(gf:Nat)(kind:Int)(T:TypeId)(v:Value)(w:World)(H:FlB w gf kind T v)(hk:kind≠0)
include H hk
theorem made_yes:Calls Tryz.prog 174 #[.pointer (some ⟨gf,0,none⟩)] w fun e w'=>e= .returned (.bool true)∧w'=w:=by
 have c0:=blk_cell H 0 (by simp);simp only[List.getElem_toArray,List.getElem_cons_zero]at c0;have e1:=ibne hk;clear H hk;go_enter Tryz.func174,Tryz.ntmps174;go_wp2_with fail;go_ret;exact⟨rfl,rfl⟩
end
section
variable(gf gl:Nat)(w:World)(H:FlB w gf 1 225 (.agg #[.pointer (some ⟨gl,0,none⟩)]))
include H
end
end Go.Proofs.YtfmiioddhpkdkaaGreat.Fl
namespace Go.Proofs.YtfmiioddhpkdkaaGreat.Fl
open Go.RowKit Go.Proofs.YtfmiioddhpkdkaaGreat.Ara Go.Proofs.YtfmiioddhpkdkaaGreat.Lok
section
variable(gf gl ga ha hs:Nat)(P:Ta.Par)(σ:Ar)(sp:List Sp)(w:World)(H:FlB w gf 1 225 (.agg #[.pointer (some ⟨gl,0,none⟩)]))(K:Ta.LkAt w gl ga ha hs P σ sp)
theorem FlB.same {W W':World}{gf:Nat}{kind:Int}{T:TypeId}{v:Value}(h:FlB W gf kind T v)(hb:Below W.heap.size W W'):FlB W' gf kind T v:=(Mod.of_below (S:=[]) hb).blk h (by simp)
theorem FlB.mod {S:List Nat}{W W':World}{gf:Nat}{kind:Int}{T:TypeId}{v:Value}(h:FlB W gf kind T v)(hm:Mod S W W')(hn:gf∉S):FlB W' gf kind T v:=hm.blk h hn
include K in
theorem lone_alone (i:Int)(b:Bool)(hb:((spOf sp i).pc==10)=b):Calls Tryz.prog 342 #[.agg #[.pointer (some ⟨gl,0,none⟩)],.int .i64 i] w fun e w'=>e= .returned (.bool b)∧Below w.heap.size w w':=by
 have hbn:=below_new w (.cells #[.pointer (some ⟨gl,0,none⟩)] 225);have c0:=blk_cell (blk_new w (.cells #[.pointer (some ⟨gl,0,none⟩)] 225)) 0 (by simp);simp only[List.getElem_toArray,List.getElem_cons_zero]at c0;have HSp:=Ta.Spot_lk gl ga ha hs P σ sp _ (K.same hbn) i;generalize spOf sp i=s at*;obtain⟨xp,xa,xb,xc⟩:=s;replace HSp:=Lib.hid HSp;have q1:=fun a b c d W=>sfld0 a b c d W;have e9:((xp==10):Bool)=b:=hb;clear K hb;by_cases hp:xp=10
 ·subst hp
  obtain rfl:true=b:=e9;go_enter Tryz.func342,Tryz.ntmps342;go_wp2_with fail;refine HSp.out.mono ?_;rintro e w2 ⟨rfl,hb2⟩;go_wp2_with fail;go_ret;exact⟨rfl,hbn.trans (hb2.mono hbn.size)⟩
 ·have e8:=ibeq_no hp
  obtain rfl:false=b:=by rw[←e9];simpa using hp
  go_enter Tryz.func342,Tryz.ntmps342;go_wp2_with fail;refine HSp.out.mono ?_;rintro e w2 ⟨rfl,hb2⟩;go_wp2_with fail;go_ret;exact⟨rfl,hbn.trans (hb2.mono hbn.size)⟩
include H K
end
end Go.Proofs.YtfmiioddhpkdkaaGreat.Fl
