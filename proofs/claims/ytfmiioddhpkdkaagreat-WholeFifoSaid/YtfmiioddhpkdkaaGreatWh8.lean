/- Merged texts: Mc1, Mc2. -/
import Derived.Test.YtfmiioddhpkdkaaGreatWh7
import Derived.Deep.RegionHeld3
import Derived.Laws.EntriesVeiled
set_option linter.unusedVariables false
set_option linter.unusedSimpArgs false
namespace Go.Proofs.YtfmiioddhpkdkaaGreat.Mc
open Go.RowKit Go.Proofs.YtfmiioddhpkdkaaGreat.Ara Go.Proofs.YtfmiioddhpkdkaaGreat.Lok
def LkAt (W:World)(gl ga ha hs:Nat)(P:Par)(σ:Ar)(sp:List Sp):Prop:=
 ArAt W ga ha σ∧SpAt W hs sp∧sp.length≤32∧(∃c:Nat,W.heap[gl]? =some (.cells #[.pointer (some ⟨ga,0,none⟩),.int .i64 P.tail,.slice (some ⟨hs,0,none⟩) sp.length c] 272 (0,0)))∧gl≠ga∧gl≠ha∧gl≠hs∧hs≠ga∧hs≠ha
theorem LkAt.mod {S:List Nat}{W W':World}{gl ga ha hs:Nat}{P:Par}{σ:Ar}{sp:List Sp}(k:LkAt W gl ga ha hs P σ sp)(hm:Mod S W W')(h1:gl∉S)(h2:ga∉S)(h3:ha∉S)(h4:hs∉S):LkAt W' gl ga ha hs P σ sp:=by
 obtain⟨k1,k2,k3,⟨c,k4⟩,k5⟩:=k;exact⟨k1.mod hm h2 h3,k2.mod hm h4,k3,⟨c,hm.blk k4 h1⟩,k5⟩
theorem LkAt.same {W W':World}{gl ga ha hs:Nat}{P:Par}{σ:Ar}{sp:List Sp}(k:LkAt W gl ga ha hs P σ sp)(hb:Below W.heap.size W W'):LkAt W' gl ga ha hs P σ sp:=
 k.mod (S:=[]) (Mod.of_below hb) (by simp) (by simp) (by simp) (by simp)
theorem LkAt.drewN {W:World}{gl ga ha hs:Nat}{P:Par}{σ:Ar}{sp:List Sp}(k:LkAt W gl ga ha hs P σ sp)(n:Nat):LkAt (W.drewN n) gl ga ha hs P σ sp:=k
theorem LkAt.arena {W W':World}{gl ga ha hs:Nat}{P:Par}{σ σ':Ar}{sp:List Sp}(k:LkAt W gl ga ha hs P σ sp)(ha':ArAt W' ga ha σ')(hm:Mod [ga,ha] W W'):LkAt W' gl ga ha hs P σ' sp:=by
 obtain⟨_,k2,k3,⟨c,k4⟩,d1,d2,d3,d4,d5⟩:=k;exact⟨ha',k2.mod hm (by simp;omega),k3,⟨c,hm.blk k4 (by simp;omega)⟩,d1,d2,d3,d4,d5⟩
theorem LkAt.spots {W W':World}{gl ga ha hs:Nat}{P:Par}{σ:Ar}{sp sp':List Sp}(k:LkAt W gl ga ha hs P σ sp)(hs':SpAt W' hs sp')(hm:Mod [hs] W W')(hl:sp'.length=sp.length):LkAt W' gl ga ha hs P σ sp':=by
 obtain⟨k1,_,k3,⟨c,k4⟩,d1,d2,d3,d4,d5⟩:=k;refine⟨k1.mod hm (by simp;omega) (by simp;omega),hs',by omega,⟨c,?_⟩,d1,d2,d3,d4,d5⟩;have:=hm.blk k4 (by simp;omega);rw[hl];exact this
theorem LkAt.heads {W:World}{gl ga ha hs:Nat}{P:Par}{σ:Ar}{sp:List Sp}(k:LkAt W gl ga ha hs P σ sp):(∃c:Nat,W.cell? ⟨gl,0,none⟩=some (.pointer (some ⟨ga,0,none⟩))∧W.cell? ⟨gl,1,none⟩=some (.int .i64 P.tail)∧W.cell? ⟨gl,2,none⟩=some (.slice (some ⟨hs,0,none⟩) sp.length c))∧sp.length≤32:=by
 obtain⟨_,_,k3,⟨c,k4⟩,_⟩:=k;exact⟨⟨c,blk_cell k4 0 (by simp),blk_cell k4 1 (by simp),blk_cell k4 2 (by simp)⟩,k3⟩
section
variable(gl ga ha hs:Nat)(P:Par)(σ:Ar)(sp:List Sp)(w:World)(H:LkAt w gl ga ha hs P σ sp)
include H
theorem slots_lk:Calls Tryz.prog 369 #[.pointer (some ⟨gl,0,none⟩)] w fun e w'=>e= .returned (.int .i64 sp.length)∧w'=w:=by
 obtain⟨⟨cc,q0,q1,q2⟩,hl⟩:=H.heads;clear H;go_enter Tryz.func369,Tryz.ntmps369;go_wp2_with fail;go_ret;exact⟨rfl,rfl⟩
theorem spot_out_lk (i:Int)(hi:i<0∨(sp.length:Int)≤i):Calls Tryz.prog 374 #[.pointer (some ⟨gl,0,none⟩),.int .i64 i] w fun e w'=>e= .returned (.pointer none)∧w'=w:=by
 have HS:=Lib.hid (slots_lk gl ga ha hs P σ sp w H);obtain⟨⟨cc,q0,q1,q2⟩,hl⟩:=H.heads;clear H;by_cases h0:i<0
 ·go_enter Tryz.func374,Tryz.ntmps374
  go_wp2_with fail;go_ret;exact⟨rfl,rfl⟩
 ·have h1:(sp.length:Int)≤i:=by omega
  go_enter Tryz.func374,Tryz.ntmps374;go_wp2_with fail;refine(HS.out).mono ?_;rintro e wx ⟨rfl,hwx⟩;obtain rfl:=hwx.symm;go_wp2_with fail;go_ret;exact⟨rfl,rfl⟩
theorem spot_in_lk (k:Nat)(hk:k<sp.length):Calls Tryz.prog 374 #[.pointer (some ⟨gl,0,none⟩),.int .i64 (k:Int)] w fun e w'=>e= .returned (.pointer (some ⟨hs,k*4,none⟩))∧w'=w:=by
 have HS:=Lib.hid (slots_lk gl ga ha hs P σ sp w H);obtain⟨⟨cc,q0,q1,q2⟩,hl⟩:=H.heads;have h1:(k:Int)<(sp.length:Int):=by omega
 have h2:(0:Int)≤(k:Int):=by omega
 clear H;go_enter Tryz.func374,Tryz.ntmps374;go_wp2_with fail;refine(HS.out).mono ?_;rintro e wx ⟨rfl,hwx⟩;obtain rfl:=hwx.symm;go_wp2_with fail;go_ret;exact⟨rfl,rfl⟩
theorem Spot_lk (i:Int):Calls Tryz.prog 370 #[.pointer (some ⟨gl,0,none⟩),.int .i64 i] w fun e w'=>e= .returned (.agg #[.int .i64 (spOf sp i).pc,.int .i64 (spOf sp i).a,.int .i64 (spOf sp i).b,.int .i64 (spOf sp i).c])∧Below w.heap.size w w':=by
 by_cases hi:i<0∨(sp.length:Int)≤i
 ·rw[spOf_out hi]
  have HS:=Lib.hid (fun W K=>spot_out_lk gl ga ha hs P σ sp W K i hi);have HH:=Lib.hid (H.same (below_new w (.cells #[.int .i64 0,.int .i64 0,.int .i64 0,.int .i64 0] 134)));clear H hi;go_enter Tryz.func370,Tryz.ntmps370;go_wp2_with fail;refine(HS.out _ HH.out).mono ?_;rintro e wx ⟨rfl,hwx⟩;obtain rfl:=hwx.symm;go_wp2_with fail;exact bodyPost_ret (v:= .agg #[.int .i64 0,.int .i64 0,.int .i64 0,.int .i64 0]) (by simp[results,Tryz.results370,go_sem]) rfl ⟨rfl,(Below.refl _ _).alloc (Nat.le_refl _) _⟩
 ·obtain⟨k,rfl⟩:=Int.eq_ofNat_of_zero_le (show 0≤i by omega)
  have hk:k<sp.length:=by omega
  have HS:=Lib.hid (fun W K=>spot_in_lk gl ga ha hs P σ sp W K k hk);have HH:=Lib.hid (H.same (below_new w (.cells #[.int .i64 0,.int .i64 0,.int .i64 0,.int .i64 0] 134)));obtain⟨c0,c1,c2,c3,_⟩:=H.2.1.cells k hk;have hlt:=H.2.1.lt;have e0:=spOf_in hk;rw[e0];clear H hi e0;generalize sp[k]=s at*;obtain⟨xp,xa,xb,xc⟩:=s;simp only at c0 c1 c2 c3⊢;go_enter Tryz.func370,Tryz.ntmps370;go_wp2_with fail;refine(HS.out _ HH.out).mono ?_;rintro e wx ⟨rfl,hwx⟩;obtain rfl:=hwx.symm;go_wp2_with fail;exact bodyPost_ret (v:= .agg #[.int .i64 xp,.int .i64 xa,.int .i64 xb,.int .i64 xc]) (by simp[results,Tryz.results370,go_sem]) rfl ⟨rfl,(Below.refl _ _).alloc (Nat.le_refl _) _⟩
theorem turn_lk (i fr tO:Int):Calls Tryz.prog 373 #[.pointer (some ⟨gl,0,none⟩),.int .i64 i,.int .i64 fr,.int .i64 tO] w fun e w'=>e= .returned (.bool (turnB sp i fr))∧LkAt w' gl ga ha hs P σ (turnS sp i fr tO)∧Mod [hs] w w':=by
 by_cases hi:i<0∨(sp.length:Int)≤i
 ·rw[turn_out hi,turnS_out hi]
  have HS:=Lib.hid (spot_out_lk gl ga ha hs P σ sp w H i hi);have HH:=Lib.hid H;clear H hi;go_enter Tryz.func373,Tryz.ntmps373;go_wp2_with fail;refine(HS.out).mono ?_;rintro e wx ⟨rfl,hwx⟩;obtain rfl:=hwx.symm;go_wp2_with fail;go_ret;exact⟨rfl,HH.out,Mod.refl _ _⟩
 ·obtain⟨k,rfl⟩:=Int.eq_ofNat_of_zero_le (show 0≤i by omega)
  have hk:k<sp.length:=by omega
  have HS:=Lib.hid (spot_in_lk gl ga ha hs P σ sp w H k hk);have c0:=(H.2.1.cells k hk).1;have f0:=(H.2.1.cells k hk).2.2.2.2 (k*4);have HH:=Lib.hid H;have hm:Mod [hs] w (w.setCell ⟨hs,k*4,none⟩ (.int .i64 tO)):=(Mod.refl _ _).setCell (by simp) _;have HT:=Lib.hid (H.spots (H.2.1.setPc k hk tO) hm (by rw[List.length_set]));rw[turn_in hk,turnS_in hk];by_cases hp:sp[k].pc=fr
  ·rw[if_pos hp,beq_iff_eq.2 hp]
   rw[hp]at c0;have e1:=ibne_no (rfl:fr=fr);generalize sp.set k {sp[k]with pc:=tO}=sp2 at*;clear H hi hp hk;go_enter Tryz.func373,Tryz.ntmps373;go_wp2_with fail;refine(HS.out).mono ?_;rintro e wx ⟨rfl,hwx⟩;obtain rfl:=hwx.symm;go_wp2_with fail;go_ret;exact⟨rfl,HT.out,hm⟩
  ·rw[if_neg hp,beq_eq_false_iff_ne.2 hp]
   have e1:=ibne hp;generalize sp[k].pc=x at*;clear H hi hp HT hm hk f0;go_enter Tryz.func373,Tryz.ntmps373;go_wp2_with fail;refine(HS.out).mono ?_;rintro e wx ⟨rfl,hwx⟩;obtain rfl:=hwx.symm;go_wp2_with fail;go_ret;exact⟨rfl,HH.out,Mod.refl _ _⟩
theorem Ask_lk (i:Int):Calls Tryz.prog 367 #[.pointer (some ⟨gl,0,none⟩),.int .i64 i] w fun e w'=>e= .returned (.bool (turnB sp i 0))∧LkAt w' gl ga ha hs P σ (turnS sp i 0 1)∧Mod [hs] w w':=by
 have HT:=Lib.hid (turn_lk gl ga ha hs P σ sp w H i 0 1);clear H;generalize turnB sp i 0=b at*;generalize turnS sp i 0 1=sp2 at*;go_enter Tryz.func367,Tryz.ntmps367;go_wp2_with fail;refine HT.out.mono ?_;rintro e w2 ⟨rfl,h2,hm⟩;go_wp2_with fail;go_ret;exact⟨rfl,h2,hm⟩
theorem Leave_lk (i:Int):Calls Tryz.prog 368 #[.pointer (some ⟨gl,0,none⟩),.int .i64 i] w fun e w'=>e= .returned (.bool (turnB sp i 10))∧LkAt w' gl ga ha hs P σ (turnS sp i 10 11)∧Mod [hs] w w':=by
 have HT:=Lib.hid (turn_lk gl ga ha hs P σ sp w H i 10 11);clear H;generalize turnB sp i 10=b at*;generalize turnS sp i 10 11=sp2 at*;go_enter Tryz.func368,Tryz.ntmps368;go_wp2_with fail;refine HT.out.mono ?_;rintro e w2 ⟨rfl,h2,hm⟩;go_wp2_with fail;go_ret;exact⟨rfl,h2,hm⟩
end
end Go.Proofs.YtfmiioddhpkdkaaGreat.Mc
namespace Go.Proofs.YtfmiioddhpkdkaaGreat.Mc
open Go.RowKit Go.Proofs.YtfmiioddhpkdkaaGreat.Ara Go.Proofs.YtfmiioddhpkdkaaGreat.Lok
def pcOk (p:Int):Prop:=p=0∨p=1∨p=2∨p=3∨p=4∨p=5∨p=10∨p=11∨p=12∨p=13∨p=14
def Num (P:Par)(σ:Ar)(sp:List Sp):Prop:=(1≤P.tail∧P.tail≤4096)∧(∀k (h:k<sp.length),(0≤sp[k].a∧sp[k].a≤4096)∧pcOk sp[k].pc)∧σ.ops≤1000000
theorem LkAt.ltl {W:World}{gl ga ha hs:Nat}{P:Par}{σ:Ar}{sp:List Sp}(k:LkAt W gl ga ha hs P σ sp):gl<W.heap.size:=by
 obtain⟨_,_,_,⟨c,k4⟩,_⟩:=k;exact lt_of_blk k4
section
variable(gl ga ha hs:Nat)(P:Par)(σ:Ar)(sp:List Sp)(w:World)(H:LkAt w gl ga ha hs P σ sp)(hP:1≤P.tail∧P.tail≤4096)
include H hP
theorem next_lk (x:Int)(h:0≤x∧x≤4096):Calls Tryz.prog 372 #[.pointer (some ⟨gl,0,none⟩),.int .i64 x] w fun e w'=>e= .returned (.int .i64 (nx P x))∧w'=w:=by
 obtain⟨⟨cc,q0,q1,q2⟩,_⟩:=H.heads;unfold nx;have e1:IntKind.i64.wrap (2*x)=2*x:=IntWalk.i64_in _ (by omega);have e2:IntKind.i64.wrap (P.tail+2*x)=P.tail+2*x:=IntWalk.i64_in _ (by omega);have e3:IntKind.i64.wrap (P.tail+2*x-1)=P.tail+2*x-1:=IntWalk.i64_in _ (by omega);clear H;go_enter Tryz.func372,Tryz.ntmps372;go_wp2_with fail;go_ret;exact⟨rfl,rfl⟩
theorem wait_lk (x:Int)(h:0≤x∧x≤4096):Calls Tryz.prog 378 #[.pointer (some ⟨gl,0,none⟩),.int .i64 x] w fun e w'=>e= .returned (.int .i64 (wt P x))∧w'=w:=by
 obtain⟨⟨cc,q0,q1,q2⟩,_⟩:=H.heads;unfold wt;have e1:IntKind.i64.wrap (2*x)=2*x:=IntWalk.i64_in _ (by omega);have e2:IntKind.i64.wrap (P.tail+2*x)=P.tail+2*x:=IntWalk.i64_in _ (by omega);clear H;go_enter Tryz.func378,Tryz.ntmps378;go_wp2_with fail;go_ret;exact⟨rfl,rfl⟩
end
section
variable(gl ga ha hs:Nat)(P:Par)(σ:Ar)(sp:List Sp)(w:World)(H:LkAt w gl ga ha hs P σ sp)(hN:Num P σ sp)(k:Nat)(hk:k<sp.length)
include H hN
set_option maxHeartbeats 4000000 in
set_option maxRecDepth 100000 in
theorem in_one (hp:sp[k].pc=1):Calls Tryz.prog 376 #[.pointer (some ⟨gl,0,none⟩),.pointer (some ⟨hs,k*4,none⟩),.int .i64 ((k:Int)+1)] w fun e w'=>e= .returned (.int .i64 2)∧LkAt w' gl ga ha hs P (σ.op 2 (nx P ((k:Int)+1)) true 0) sp∧Mod [ga,ha,hs] w w':=by
 have HSt:=Lib.hid (fun W (K:LkAt W gl ga ha hs P σ sp)=>store_any ga ha σ W K.1 hN.2.2 (nx P ((k:Int)+1)) 0);obtain⟨hP,hS,ho⟩:=hN;obtain⟨d1,d2,d3,d4,d5⟩:=H.2.2.2.2;obtain⟨⟨cc,q0,q1,q2⟩,hl32⟩:=H.heads;obtain⟨s0,s1,s2,s3,sf⟩:=H.2.1.cells k hk;have hna:=(hS k hk).1;rw[hp]at s0;have HH:=Lib.hid H;have HK:=Lib.hid hk;have hm0:Mod [ga,ha,hs] w (w.drewN 1):=(Mod.refl _ _).drewN 1;clear H s2 s3 hS;have HX:=Lib.hid (fun W (K:LkAt W gl ga ha hs P σ sp)=>next_lk gl ga ha hs P σ sp W K hP ((k:Int)+1) (by omega));generalize sp[k].a=xa at*;generalize σ.op 2 (nx P ((k:Int)+1)) true 0=σ2 at*;generalize nx P ((k:Int)+1)=p at*;clear hp;go_enter Tryz.func376,Tryz.ntmps376;go_wp2_with fail
 go_region_held3(fun V=>V.cell? ⟨gl,0,none⟩=some (.pointer (some ⟨ga,0,none⟩))∧V.cell? ⟨hs,k*4+1,none⟩=some (.int .i64 xa))
  (first|exact⟨q0,s1⟩|exact k2)
  (first
   |(go_at_call 372;refine(HX.out (w.drewN 1) (HH.out.drewN 1)).mono ?_;rintro e wx ⟨rfl,hwx⟩;obtain rfl:=hwx.symm)
   |(go_at_call 109;refine(HSt.out _ (HH.out.drewN 1)).mono ?_;rintro e w2 ⟨rfl,ha2,hm2⟩;have k2:=And.intro (keepM hm2 (show(w.drewN 1).cell? _=_ from q0) (by simp;omega)) (keepM hm2 (show(w.drewN 1).cell? _=_ from s1) (by simp;omega));have H2:=Lib.hid ((HH.out.drewN 1).arena ha2 hm2)))
 have hmm:Mod [ga,ha,hs] w w2:=hm0.trans (hm2.sub (by simp));clear k2 ha2 hm2;go_wp2_with fail;go_ret;exact⟨rfl,H2.out,hmm⟩
set_option maxHeartbeats 4000000 in
set_option maxRecDepth 100000 in
theorem in_two (hp:sp[k].pc=2):Calls Tryz.prog 376 #[.pointer (some ⟨gl,0,none⟩),.pointer (some ⟨hs,k*4,none⟩),.int .i64 ((k:Int)+1)] w fun e w'=>e= .returned (.int .i64 3)∧LkAt w' gl ga ha hs P (σ.op 2 (wt P ((k:Int)+1)) true 1) sp∧Mod [ga,ha,hs] w w':=by
 have HSt:=Lib.hid (fun W (K:LkAt W gl ga ha hs P σ sp)=>store_any ga ha σ W K.1 hN.2.2 (wt P ((k:Int)+1)) 1);obtain⟨hP,hS,ho⟩:=hN;obtain⟨d1,d2,d3,d4,d5⟩:=H.2.2.2.2;obtain⟨⟨cc,q0,q1,q2⟩,hl32⟩:=H.heads;obtain⟨s0,s1,s2,s3,sf⟩:=H.2.1.cells k hk;have hna:=(hS k hk).1;rw[hp]at s0;have HH:=Lib.hid H;have HK:=Lib.hid hk;have hm0:Mod [ga,ha,hs] w (w.drewN 1):=(Mod.refl _ _).drewN 1;clear H s2 s3 hS;have HX:=Lib.hid (fun W (K:LkAt W gl ga ha hs P σ sp)=>wait_lk gl ga ha hs P σ sp W K hP ((k:Int)+1) (by omega));generalize sp[k].a=xa at*;generalize σ.op 2 (wt P ((k:Int)+1)) true 1=σ2 at*;generalize wt P ((k:Int)+1)=p at*;clear hp;go_enter Tryz.func376,Tryz.ntmps376;go_wp2_with fail
 go_region_held3(fun V=>V.cell? ⟨gl,0,none⟩=some (.pointer (some ⟨ga,0,none⟩))∧V.cell? ⟨hs,k*4+1,none⟩=some (.int .i64 xa))
  (first|exact⟨q0,s1⟩|exact k2)
  (first
   |(go_at_call 378;refine(HX.out (w.drewN 1) (HH.out.drewN 1)).mono ?_;rintro e wx ⟨rfl,hwx⟩;obtain rfl:=hwx.symm)
   |(go_at_call 109;refine(HSt.out _ (HH.out.drewN 1)).mono ?_;rintro e w2 ⟨rfl,ha2,hm2⟩;have k2:=And.intro (keepM hm2 (show(w.drewN 1).cell? _=_ from q0) (by simp;omega)) (keepM hm2 (show(w.drewN 1).cell? _=_ from s1) (by simp;omega));have H2:=Lib.hid ((HH.out.drewN 1).arena ha2 hm2)))
 have hmm:Mod [ga,ha,hs] w w2:=hm0.trans (hm2.sub (by simp));clear k2 ha2 hm2;go_wp2_with fail;go_ret;exact⟨rfl,H2.out,hmm⟩
set_option maxHeartbeats 4000000 in
set_option maxRecDepth 100000 in
theorem in_four (hp:sp[k].pc=4):Calls Tryz.prog 376 #[.pointer (some ⟨gl,0,none⟩),.pointer (some ⟨hs,k*4,none⟩),.int .i64 ((k:Int)+1)] w fun e w'=>e= .returned (.int .i64 5)∧LkAt w' gl ga ha hs P (σ.op 2 (nx P sp[k].a) true ((k:Int)+1)) sp∧Mod [ga,ha,hs] w w':=by
 have HSt:=Lib.hid (fun W (K:LkAt W gl ga ha hs P σ sp)=>store_any ga ha σ W K.1 hN.2.2 (nx P sp[k].a) ((k:Int)+1));obtain⟨hP,hS,ho⟩:=hN;obtain⟨d1,d2,d3,d4,d5⟩:=H.2.2.2.2;obtain⟨⟨cc,q0,q1,q2⟩,hl32⟩:=H.heads;obtain⟨s0,s1,s2,s3,sf⟩:=H.2.1.cells k hk;have hna:=(hS k hk).1;rw[hp]at s0;have HH:=Lib.hid H;have HK:=Lib.hid hk;have hm0:Mod [ga,ha,hs] w (w.drewN 1):=(Mod.refl _ _).drewN 1;clear H s2 s3 hS;have HX:=Lib.hid (fun W (K:LkAt W gl ga ha hs P σ sp)=>next_lk gl ga ha hs P σ sp W K hP sp[k].a hna);generalize sp[k].a=xa at*;generalize σ.op 2 (nx P xa) true ((k:Int)+1)=σ2 at*;generalize nx P xa=p at*;clear hp;go_enter Tryz.func376,Tryz.ntmps376;go_wp2_with fail
 go_region_held3(fun V=>V.cell? ⟨gl,0,none⟩=some (.pointer (some ⟨ga,0,none⟩))∧V.cell? ⟨hs,k*4+1,none⟩=some (.int .i64 xa))
  (first|exact⟨q0,s1⟩|exact k2)
  (first
   |(go_at_call 372;refine(HX.out (w.drewN 1) (HH.out.drewN 1)).mono ?_;rintro e wx ⟨rfl,hwx⟩;obtain rfl:=hwx.symm)
   |(go_at_call 109;refine(HSt.out _ (HH.out.drewN 1)).mono ?_;rintro e w2 ⟨rfl,ha2,hm2⟩;have k2:=And.intro (keepM hm2 (show(w.drewN 1).cell? _=_ from q0) (by simp;omega)) (keepM hm2 (show(w.drewN 1).cell? _=_ from s1) (by simp;omega));have H2:=Lib.hid ((HH.out.drewN 1).arena ha2 hm2)))
 have hmm:Mod [ga,ha,hs] w w2:=hm0.trans (hm2.sub (by simp));clear k2 ha2 hm2;go_wp2_with fail;go_ret;exact⟨rfl,H2.out,hmm⟩
set_option maxHeartbeats 4000000 in
set_option maxRecDepth 100000 in
theorem in_five (hp:sp[k].pc=5):Calls Tryz.prog 376 #[.pointer (some ⟨gl,0,none⟩),.pointer (some ⟨hs,k*4,none⟩),.int .i64 ((k:Int)+1)] w fun e w'=>e= .returned (.int .i64 (if σ.get (wt P ((k:Int)+1))=0 then 10 else 5))∧LkAt w' gl ga ha hs P (σ.op 1 (wt P ((k:Int)+1)) false 0) sp∧Mod [ga,ha,hs] w w':=by
 have HSt:=Lib.hid (fun W (K:LkAt W gl ga ha hs P σ sp)=>load_any ga ha σ W K.1 hN.2.2 (wt P ((k:Int)+1)));obtain⟨hP,hS,ho⟩:=hN;obtain⟨d1,d2,d3,d4,d5⟩:=H.2.2.2.2;obtain⟨⟨cc,q0,q1,q2⟩,hl32⟩:=H.heads;obtain⟨s0,s1,s2,s3,sf⟩:=H.2.1.cells k hk;have hna:=(hS k hk).1;rw[hp]at s0;have HH:=Lib.hid H;have HK:=Lib.hid hk;have hm0:Mod [ga,ha,hs] w (w.drewN 1):=(Mod.refl _ _).drewN 1;clear H s2 s3 hS;have HX:=Lib.hid (fun W (K:LkAt W gl ga ha hs P σ sp)=>wait_lk gl ga ha hs P σ sp W K hP ((k:Int)+1) (by omega));generalize sp[k].a=xa at*;generalize σ.op 1 (wt P ((k:Int)+1)) false 0=σ2 at*;generalize wt P ((k:Int)+1)=p at*;clear hp;by_cases hx:σ.get p=0
 ·rw[if_pos hx]
  rw[hx]at HSt;clear hx;go_enter Tryz.func376,Tryz.ntmps376;go_wp2_with fail
  go_region_held3(fun V=>V.cell? ⟨gl,0,none⟩=some (.pointer (some ⟨ga,0,none⟩))∧V.cell? ⟨hs,k*4+1,none⟩=some (.int .i64 xa))
   (first|exact⟨q0,s1⟩|exact k2)
   (first
    |(go_at_call 378;refine(HX.out (w.drewN 1) (HH.out.drewN 1)).mono ?_;rintro e wx ⟨rfl,hwx⟩;obtain rfl:=hwx.symm)
    |(go_at_call 105;refine(HSt.out _ (HH.out.drewN 1)).mono ?_;rintro e w2 ⟨rfl,ha2,hm2⟩;have k2:=And.intro (keepM hm2 (show(w.drewN 1).cell? _=_ from q0) (by simp;omega)) (keepM hm2 (show(w.drewN 1).cell? _=_ from s1) (by simp;omega));have H2:=Lib.hid ((HH.out.drewN 1).arena ha2 hm2)))
  have hmm:Mod [ga,ha,hs] w w2:=hm0.trans (hm2.sub (by simp));clear k2 ha2 hm2;go_wp2_with fail;go_ret;exact⟨rfl,H2.out,hmm⟩
 ·rw[if_neg hx]
  generalize σ.get p=x at*;have e9:=ibeq_no hx;clear hx;go_enter Tryz.func376,Tryz.ntmps376;go_wp2_with fail
  go_region_held3(fun V=>V.cell? ⟨gl,0,none⟩=some (.pointer (some ⟨ga,0,none⟩))∧V.cell? ⟨hs,k*4+1,none⟩=some (.int .i64 xa))
   (first|exact⟨q0,s1⟩|exact k2)
   (first
    |(go_at_call 378;refine(HX.out (w.drewN 1) (HH.out.drewN 1)).mono ?_;rintro e wx ⟨rfl,hwx⟩;obtain rfl:=hwx.symm)
    |(go_at_call 105;refine(HSt.out _ (HH.out.drewN 1)).mono ?_;rintro e w2 ⟨rfl,ha2,hm2⟩;have k2:=And.intro (keepM hm2 (show(w.drewN 1).cell? _=_ from q0) (by simp;omega)) (keepM hm2 (show(w.drewN 1).cell? _=_ from s1) (by simp;omega));have H2:=Lib.hid ((HH.out.drewN 1).arena ha2 hm2)))
  have hmm:Mod [ga,ha,hs] w w2:=hm0.trans (hm2.sub (by simp));clear k2 ha2 hm2;go_wp2_with fail;go_ret;exact⟨rfl,H2.out,hmm⟩
set_option maxHeartbeats 4000000 in
set_option maxRecDepth 100000 in
theorem in_three (hp:sp[k].pc=3)(sp2:List Sp)(h2:sp2=sp.set k {sp[k]with a:=σ.get P.tail}):Calls Tryz.prog 376 #[.pointer (some ⟨gl,0,none⟩),.pointer (some ⟨hs,k*4,none⟩),.int .i64 ((k:Int)+1)] w fun e w'=>e= .returned (.int .i64 (if σ.get P.tail=0 then 10 else 4))∧LkAt w' gl ga ha hs P (σ.op 3 P.tail true ((k:Int)+1)) sp2∧Mod [ga,ha,hs] w w':=by
 have HSt:=Lib.hid (fun W (K:LkAt W gl ga ha hs P σ sp)=>swap_any ga ha σ W K.1 hN.2.2 P.tail ((k:Int)+1));obtain⟨hP,hS,ho⟩:=hN;obtain⟨d1,d2,d3,d4,d5⟩:=H.2.2.2.2;obtain⟨⟨cc,q0,q1,q2⟩,hl32⟩:=H.heads;obtain⟨s0,s1,s2,s3,sf⟩:=H.2.1.cells k hk;have hna:=(hS k hk).1;rw[hp]at s0;have HH:=Lib.hid H;have HK:=Lib.hid hk;have hm0:Mod [ga,ha,hs] w (w.drewN 1):=(Mod.refl _ _).drewN 1;clear H s2 s3 hS
 have HC:∀W σ2,LkAt W gl ga ha hs P σ2 sp→W.cell? ⟨hs,k*4+1,none⟩=some (.int .i64 sp[k].a)∧W.frozen? ⟨hs,k*4+1,none⟩=false∧LkAt (W.setCell ⟨hs,k*4+1,none⟩ (.int .i64 (σ.get P.tail))) gl ga ha hs P σ2 sp2:=
  fun W σ2 K=>⟨(K.2.1.cells k hk).2.1,(K.2.1.cells k hk).2.2.2.2 (k*4+1),by rw[h2];exact K.spots (K.2.1.setA k hk (σ.get P.tail)) ((Mod.refl [hs] W).setCell (by simp) _) (by rw[List.length_set])⟩
 have HCv:∀W σ2,LkAt W gl ga ha hs P σ2 sp2→W.cell? ⟨hs,k*4+1,none⟩=some (.int .i64 (σ.get P.tail)):=fun W σ2 K=>by
  rw[h2]at K;have:=(K.2.1.cells k (by rw[List.length_set];exact hk)).2.1;rw[List.getElem_set_self]at this;exact this
 have HCp:∀W σ2,LkAt W gl ga ha hs P σ2 sp2→W.cell? ⟨hs,k*4,none⟩=some (.int .i64 3):=fun W σ2 K=>by
  rw[h2]at K;have:=(K.2.1.cells k (by rw[List.length_set];exact hk)).1;rw[List.getElem_set_self]at this;exact this.trans (congrArg (fun z=>some (Value.int .i64 z)) hp)
 replace HC:=Lib.hid HC;replace HCv:=Lib.hid HCv;replace HCp:=Lib.hid HCp;clear h2;generalize sp[k].a=xa at*;generalize σ.op 3 P.tail true ((k:Int)+1)=σ2 at*;clear hp;by_cases hx:σ.get P.tail=0
 ·rw[if_pos hx]
  rw[hx]at HSt HC HCv;clear hx;go_enter Tryz.func376,Tryz.ntmps376;go_wp2_with fail
  go_region_held3(fun V=>V.cell? ⟨gl,0,none⟩=some (.pointer (some ⟨ga,0,none⟩))∧V.cell? ⟨gl,1,none⟩=some (.int .i64 P.tail))
   (first|exact⟨q0,q1⟩|exact k2|exact k3)
   (first
    |(go_at_call 201;refine(HSt.out _ (HH.out.drewN 1)).mono ?_;rintro e w2 ⟨rfl,ha2,hm2⟩;have k2:=And.intro (keepM hm2 (show(w.drewN 1).cell? _=_ from q0) (by simp;omega)) (keepM hm2 (show(w.drewN 1).cell? _=_ from q1) (by simp;omega));have H2:=Lib.hid ((HH.out.drewN 1).arena ha2 hm2);have c2:=(HC.out _ _ H2.out).1;have f2:=(HC.out _ _ H2.out).2.1;have k3:=And.intro (((World.cell?_setCell_far w2 ⟨hs,k*4+1,none⟩ ⟨gl,0,none⟩ (.int .i64 0) (by simp;omega))).trans k2.1) (((World.cell?_setCell_far w2 ⟨hs,k*4+1,none⟩ ⟨gl,1,none⟩ (.int .i64 0) (by simp;omega))).trans k2.2)))
  have H3:=(HC.out _ _ H2.out).2.2;have hmm:Mod [ga,ha,hs] w (w2.setCell ⟨hs,k*4+1,none⟩ (.int .i64 0)):=(hm0.trans (hm2.sub (by simp))).setCell (by simp) _;have v1:=(HCv.out _ _ H3);have v0:=(HCp.out _ _ H3);replace H3:=Lib.hid H3;clear k2 k3 ha2 hm2 c2 f2;generalize w2.setCell ⟨hs,k*4+1,none⟩ (.int .i64 0)=w3 at*;go_wp2_with fail;go_ret;exact⟨rfl,H3.out,hmm⟩
 ·rw[if_neg hx]
  generalize σ.get P.tail=x at*;have e9:=ibeq_no hx;clear hx;go_enter Tryz.func376,Tryz.ntmps376;go_wp2_with fail
  go_region_held3(fun V=>V.cell? ⟨gl,0,none⟩=some (.pointer (some ⟨ga,0,none⟩))∧V.cell? ⟨gl,1,none⟩=some (.int .i64 P.tail))
   (first|exact⟨q0,q1⟩|exact k2|exact k3)
   (first
    |(go_at_call 201;refine(HSt.out _ (HH.out.drewN 1)).mono ?_;rintro e w2 ⟨rfl,ha2,hm2⟩;have k2:=And.intro (keepM hm2 (show(w.drewN 1).cell? _=_ from q0) (by simp;omega)) (keepM hm2 (show(w.drewN 1).cell? _=_ from q1) (by simp;omega));have H2:=Lib.hid ((HH.out.drewN 1).arena ha2 hm2);have c2:=(HC.out _ _ H2.out).1;have f2:=(HC.out _ _ H2.out).2.1;have k3:=And.intro (((World.cell?_setCell_far w2 ⟨hs,k*4+1,none⟩ ⟨gl,0,none⟩ (.int .i64 x) (by simp;omega))).trans k2.1) (((World.cell?_setCell_far w2 ⟨hs,k*4+1,none⟩ ⟨gl,1,none⟩ (.int .i64 x) (by simp;omega))).trans k2.2)))
  have H3:=(HC.out _ _ H2.out).2.2;have hmm:Mod [ga,ha,hs] w (w2.setCell ⟨hs,k*4+1,none⟩ (.int .i64 x)):=(hm0.trans (hm2.sub (by simp))).setCell (by simp) _;have v1:=(HCv.out _ _ H3);have v0:=(HCp.out _ _ H3);replace H3:=Lib.hid H3;clear k2 k3 ha2 hm2 c2 f2;generalize w2.setCell ⟨hs,k*4+1,none⟩ (.int .i64 x)=w3 at*;go_wp2_with fail;go_ret;exact⟨rfl,H3.out,hmm⟩
set_option maxHeartbeats 4000000 in
set_option maxRecDepth 100000 in
theorem out_14 (hp:sp[k].pc=14):Calls Tryz.prog 377 #[.pointer (some ⟨gl,0,none⟩),.pointer (some ⟨hs,k*4,none⟩),.int .i64 ((k:Int)+1)] w fun e w'=>e= .returned (.int .i64 0)∧LkAt w' gl ga ha hs P (σ.op 2 (wt P sp[k].a) true 0) sp∧Mod [ga,ha,hs] w w':=by
 have HSt:=Lib.hid (fun W (K:LkAt W gl ga ha hs P σ sp)=>store_any ga ha σ W K.1 hN.2.2 (wt P sp[k].a) 0);obtain⟨hP,hS,ho⟩:=hN;obtain⟨d1,d2,d3,d4,d5⟩:=H.2.2.2.2;obtain⟨⟨cc,q0,q1,q2⟩,hl32⟩:=H.heads;obtain⟨s0,s1,s2,s3,sf⟩:=H.2.1.cells k hk;have hna:=(hS k hk).1;rw[hp]at s0;have HH:=Lib.hid H;have HK:=Lib.hid hk;have hm0:Mod [ga,ha,hs] w (w.drewN 1):=(Mod.refl _ _).drewN 1;clear H s2 s3 hS;have HX:=Lib.hid (fun W (K:LkAt W gl ga ha hs P σ sp)=>wait_lk gl ga ha hs P σ sp W K hP sp[k].a hna);generalize sp[k].a=xa at*;generalize σ.op 2 (wt P xa) true 0=σ2 at*;generalize wt P xa=p at*;clear hp;go_enter Tryz.func377,Tryz.ntmps377;go_wp2_with fail
 go_region_held3(fun V=>V.cell? ⟨gl,0,none⟩=some (.pointer (some ⟨ga,0,none⟩))∧V.cell? ⟨hs,k*4+1,none⟩=some (.int .i64 xa))
  (first|exact⟨q0,s1⟩|exact k2)
  (first
   |(go_at_call 378;refine(HX.out (w.drewN 1) (HH.out.drewN 1)).mono ?_;rintro e wx ⟨rfl,hwx⟩;obtain rfl:=hwx.symm)
   |(go_at_call 109;refine(HSt.out _ (HH.out.drewN 1)).mono ?_;rintro e w2 ⟨rfl,ha2,hm2⟩;have k2:=And.intro (keepM hm2 (show(w.drewN 1).cell? _=_ from q0) (by simp;omega)) (keepM hm2 (show(w.drewN 1).cell? _=_ from s1) (by simp;omega));have H2:=Lib.hid ((HH.out.drewN 1).arena ha2 hm2)))
 have hmm:Mod [ga,ha,hs] w w2:=hm0.trans (hm2.sub (by simp));clear k2 ha2 hm2;go_wp2_with fail;go_ret;exact⟨rfl,H2.out,hmm⟩
set_option maxHeartbeats 4000000 in
set_option maxRecDepth 100000 in
theorem out_12 (hp:sp[k].pc=12):Calls Tryz.prog 377 #[.pointer (some ⟨gl,0,none⟩),.pointer (some ⟨hs,k*4,none⟩),.int .i64 ((k:Int)+1)] w fun e w'=>e= .returned (.int .i64 (if(σ.has P.tail&&(σ.get P.tail==(k:Int)+1))=true then 0 else 13))∧LkAt w' gl ga ha hs P (σ.op 4 P.tail (σ.has P.tail&&(σ.get P.tail==(k:Int)+1)) 0) sp∧Mod [ga,ha,hs] w w':=by
 have HSt:=Lib.hid (fun W (K:LkAt W gl ga ha hs P σ sp)=>cas_any ga ha σ W K.1 hN.2.2 P.tail ((k:Int)+1) 0);obtain⟨hP,hS,ho⟩:=hN;obtain⟨d1,d2,d3,d4,d5⟩:=H.2.2.2.2;obtain⟨⟨cc,q0,q1,q2⟩,hl32⟩:=H.heads;obtain⟨s0,s1,s2,s3,sf⟩:=H.2.1.cells k hk;have hna:=(hS k hk).1;rw[hp]at s0;have HH:=Lib.hid H;have HK:=Lib.hid hk;have hm0:Mod [ga,ha,hs] w (w.drewN 1):=(Mod.refl _ _).drewN 1;clear H s2 s3 hS;generalize sp[k].a=xa at*;clear hp;generalize(σ.has P.tail&&(σ.get P.tail==(k:Int)+1))=b at*;generalize σ.op 4 P.tail b 0=σ2 at*;cases b
 ·rw[if_neg (by decide)]
  go_enter Tryz.func377,Tryz.ntmps377;go_wp2_with fail
  go_region_held3(fun V=>V.cell? ⟨gl,0,none⟩=some (.pointer (some ⟨ga,0,none⟩))∧V.cell? ⟨gl,1,none⟩=some (.int .i64 P.tail))
   (first|exact⟨q0,q1⟩|exact k2)
   (first
    |(go_at_call 202;refine(HSt.out _ (HH.out.drewN 1)).mono ?_;rintro e w2 ⟨rfl,ha2,hm2⟩;have k2:=And.intro (keepM hm2 (show(w.drewN 1).cell? _=_ from q0) (by simp;omega)) (keepM hm2 (show(w.drewN 1).cell? _=_ from q1) (by simp;omega));have H2:=Lib.hid ((HH.out.drewN 1).arena ha2 hm2)))
  have hmm:Mod [ga,ha,hs] w w2:=hm0.trans (hm2.sub (by simp));clear k2 ha2 hm2;go_wp2_with fail;go_ret;exact⟨rfl,H2.out,hmm⟩
 ·rw[if_pos rfl]
  go_enter Tryz.func377,Tryz.ntmps377;go_wp2_with fail
  go_region_held3(fun V=>V.cell? ⟨gl,0,none⟩=some (.pointer (some ⟨ga,0,none⟩))∧V.cell? ⟨gl,1,none⟩=some (.int .i64 P.tail))
   (first|exact⟨q0,q1⟩|exact k2)
   (first
    |(go_at_call 202;refine(HSt.out _ (HH.out.drewN 1)).mono ?_;rintro e w2 ⟨rfl,ha2,hm2⟩;have k2:=And.intro (keepM hm2 (show(w.drewN 1).cell? _=_ from q0) (by simp;omega)) (keepM hm2 (show(w.drewN 1).cell? _=_ from q1) (by simp;omega));have H2:=Lib.hid ((HH.out.drewN 1).arena ha2 hm2)))
  have hmm:Mod [ga,ha,hs] w w2:=hm0.trans (hm2.sub (by simp));clear k2 ha2 hm2;go_wp2_with fail;go_ret;exact⟨rfl,H2.out,hmm⟩
set_option maxHeartbeats 4000000 in
set_option maxRecDepth 100000 in
theorem out_11 (hp:sp[k].pc=11)(sp2:List Sp)(h2:sp2=sp.set k {sp[k]with a:=σ.get (nx P ((k:Int)+1))}):Calls Tryz.prog 377 #[.pointer (some ⟨gl,0,none⟩),.pointer (some ⟨hs,k*4,none⟩),.int .i64 ((k:Int)+1)] w fun e w'=>e= .returned (.int .i64 (if σ.get (nx P ((k:Int)+1))=0 then 12 else 14))∧LkAt w' gl ga ha hs P (σ.op 1 (nx P ((k:Int)+1)) false 0) sp2∧Mod [ga,ha,hs] w w':=by
 have HSt:=Lib.hid (fun W (K:LkAt W gl ga ha hs P σ sp)=>load_any ga ha σ W K.1 hN.2.2 (nx P ((k:Int)+1)));obtain⟨hP,hS,ho⟩:=hN;obtain⟨d1,d2,d3,d4,d5⟩:=H.2.2.2.2;obtain⟨⟨cc,q0,q1,q2⟩,hl32⟩:=H.heads;obtain⟨s0,s1,s2,s3,sf⟩:=H.2.1.cells k hk;have hna:=(hS k hk).1;rw[hp]at s0;have HH:=Lib.hid H;have HK:=Lib.hid hk;have hm0:Mod [ga,ha,hs] w (w.drewN 1):=(Mod.refl _ _).drewN 1;clear H s2 s3 hS;have HX:=Lib.hid (fun W (K:LkAt W gl ga ha hs P σ sp)=>next_lk gl ga ha hs P σ sp W K hP ((k:Int)+1) (by omega))
 have HC:∀W σ2,LkAt W gl ga ha hs P σ2 sp→W.cell? ⟨hs,k*4+1,none⟩=some (.int .i64 sp[k].a)∧W.frozen? ⟨hs,k*4+1,none⟩=false∧LkAt (W.setCell ⟨hs,k*4+1,none⟩ (.int .i64 (σ.get (nx P ((k:Int)+1))))) gl ga ha hs P σ2 sp2:=
  fun W σ2 K=>⟨(K.2.1.cells k hk).2.1,(K.2.1.cells k hk).2.2.2.2 (k*4+1),by rw[h2];exact K.spots (K.2.1.setA k hk (σ.get (nx P ((k:Int)+1)))) ((Mod.refl [hs] W).setCell (by simp) _) (by rw[List.length_set])⟩
 have HCv:∀W σ2,LkAt W gl ga ha hs P σ2 sp2→W.cell? ⟨hs,k*4+1,none⟩=some (.int .i64 (σ.get (nx P ((k:Int)+1)))):=fun W σ2 K=>by
  rw[h2]at K;have:=(K.2.1.cells k (by rw[List.length_set];exact hk)).2.1;rw[List.getElem_set_self]at this;exact this
 have HCp:∀W σ2,LkAt W gl ga ha hs P σ2 sp2→W.cell? ⟨hs,k*4,none⟩=some (.int .i64 11):=fun W σ2 K=>by
  rw[h2]at K;have:=(K.2.1.cells k (by rw[List.length_set];exact hk)).1;rw[List.getElem_set_self]at this;exact this.trans (congrArg (fun z=>some (Value.int .i64 z)) hp)
 replace HC:=Lib.hid HC;replace HCv:=Lib.hid HCv;replace HCp:=Lib.hid HCp;clear h2;generalize sp[k].a=xa at*;generalize σ.op 1 (nx P ((k:Int)+1)) false 0=σ2 at*;generalize nx P ((k:Int)+1)=p at*;clear hp;by_cases hx:σ.get p=0
 ·rw[if_pos hx]
  rw[hx]at HSt HC HCv;clear hx;go_enter Tryz.func377,Tryz.ntmps377;go_wp2_with fail
  go_region_held3(fun V=>V.cell? ⟨gl,0,none⟩=some (.pointer (some ⟨ga,0,none⟩)))
   (first|exact q0|exact k2|exact k3)
   (first
    |(go_at_call 372;refine(HX.out (w.drewN 1) (HH.out.drewN 1)).mono ?_;rintro e wx ⟨rfl,hwx⟩;obtain rfl:=hwx.symm)
    |(go_at_call 105;refine(HSt.out _ (HH.out.drewN 1)).mono ?_;rintro e w2 ⟨rfl,ha2,hm2⟩;have k2:=keepM hm2 (show(w.drewN 1).cell? _=_ from q0) (by simp;omega);have H2:=Lib.hid ((HH.out.drewN 1).arena ha2 hm2);have c2:=(HC.out _ _ H2.out).1;have f2:=(HC.out _ _ H2.out).2.1;have k3:=((World.cell?_setCell_far w2 ⟨hs,k*4+1,none⟩ ⟨gl,0,none⟩ (.int .i64 0) (by simp;omega))).trans k2))
  have H3:=(HC.out _ _ H2.out).2.2;have hmm:Mod [ga,ha,hs] w (w2.setCell ⟨hs,k*4+1,none⟩ (.int .i64 0)):=(hm0.trans (hm2.sub (by simp))).setCell (by simp) _;have v1:=(HCv.out _ _ H3);have v0:=(HCp.out _ _ H3);replace H3:=Lib.hid H3;clear k2 k3 ha2 hm2 c2 f2;generalize w2.setCell ⟨hs,k*4+1,none⟩ (.int .i64 0)=w3 at*;go_wp2_with fail;go_ret;exact⟨rfl,H3.out,hmm⟩
 ·rw[if_neg hx]
  generalize σ.get p=x at*;have e9:=ibne hx;clear hx;go_enter Tryz.func377,Tryz.ntmps377;go_wp2_with fail
  go_region_held3(fun V=>V.cell? ⟨gl,0,none⟩=some (.pointer (some ⟨ga,0,none⟩)))
   (first|exact q0|exact k2|exact k3)
   (first
    |(go_at_call 372;refine(HX.out (w.drewN 1) (HH.out.drewN 1)).mono ?_;rintro e wx ⟨rfl,hwx⟩;obtain rfl:=hwx.symm)
    |(go_at_call 105;refine(HSt.out _ (HH.out.drewN 1)).mono ?_;rintro e w2 ⟨rfl,ha2,hm2⟩;have k2:=keepM hm2 (show(w.drewN 1).cell? _=_ from q0) (by simp;omega);have H2:=Lib.hid ((HH.out.drewN 1).arena ha2 hm2);have c2:=(HC.out _ _ H2.out).1;have f2:=(HC.out _ _ H2.out).2.1;have k3:=((World.cell?_setCell_far w2 ⟨hs,k*4+1,none⟩ ⟨gl,0,none⟩ (.int .i64 x) (by simp;omega))).trans k2))
  have H3:=(HC.out _ _ H2.out).2.2;have hmm:Mod [ga,ha,hs] w (w2.setCell ⟨hs,k*4+1,none⟩ (.int .i64 x)):=(hm0.trans (hm2.sub (by simp))).setCell (by simp) _;have v1:=(HCv.out _ _ H3);have v0:=(HCp.out _ _ H3);replace H3:=Lib.hid H3;clear k2 k3 ha2 hm2 c2 f2;generalize w2.setCell ⟨hs,k*4+1,none⟩ (.int .i64 x)=w3 at*;go_wp2_with fail;go_ret;exact⟨rfl,H3.out,hmm⟩
set_option maxHeartbeats 4000000 in
set_option maxRecDepth 100000 in
theorem out_13 (hp:sp[k].pc=13)(sp2:List Sp)(h2:sp2=sp.set k {sp[k]with a:=σ.get (nx P ((k:Int)+1))}):Calls Tryz.prog 377 #[.pointer (some ⟨gl,0,none⟩),.pointer (some ⟨hs,k*4,none⟩),.int .i64 ((k:Int)+1)] w fun e w'=>e= .returned (.int .i64 (if σ.get (nx P ((k:Int)+1))=0 then 13 else 14))∧LkAt w' gl ga ha hs P (σ.op 1 (nx P ((k:Int)+1)) false 0) sp2∧Mod [ga,ha,hs] w w':=by
 have HSt:=Lib.hid (fun W (K:LkAt W gl ga ha hs P σ sp)=>load_any ga ha σ W K.1 hN.2.2 (nx P ((k:Int)+1)));obtain⟨hP,hS,ho⟩:=hN;obtain⟨d1,d2,d3,d4,d5⟩:=H.2.2.2.2;obtain⟨⟨cc,q0,q1,q2⟩,hl32⟩:=H.heads;obtain⟨s0,s1,s2,s3,sf⟩:=H.2.1.cells k hk;have hna:=(hS k hk).1;rw[hp]at s0;have HH:=Lib.hid H;have HK:=Lib.hid hk;have hm0:Mod [ga,ha,hs] w (w.drewN 1):=(Mod.refl _ _).drewN 1;clear H s2 s3 hS;have HX:=Lib.hid (fun W (K:LkAt W gl ga ha hs P σ sp)=>next_lk gl ga ha hs P σ sp W K hP ((k:Int)+1) (by omega))
 have HC:∀W σ2,LkAt W gl ga ha hs P σ2 sp→W.cell? ⟨hs,k*4+1,none⟩=some (.int .i64 sp[k].a)∧W.frozen? ⟨hs,k*4+1,none⟩=false∧LkAt (W.setCell ⟨hs,k*4+1,none⟩ (.int .i64 (σ.get (nx P ((k:Int)+1))))) gl ga ha hs P σ2 sp2:=
  fun W σ2 K=>⟨(K.2.1.cells k hk).2.1,(K.2.1.cells k hk).2.2.2.2 (k*4+1),by rw[h2];exact K.spots (K.2.1.setA k hk (σ.get (nx P ((k:Int)+1)))) ((Mod.refl [hs] W).setCell (by simp) _) (by rw[List.length_set])⟩
 have HCv:∀W σ2,LkAt W gl ga ha hs P σ2 sp2→W.cell? ⟨hs,k*4+1,none⟩=some (.int .i64 (σ.get (nx P ((k:Int)+1)))):=fun W σ2 K=>by
  rw[h2]at K;have:=(K.2.1.cells k (by rw[List.length_set];exact hk)).2.1;rw[List.getElem_set_self]at this;exact this
 have HCp:∀W σ2,LkAt W gl ga ha hs P σ2 sp2→W.cell? ⟨hs,k*4,none⟩=some (.int .i64 13):=fun W σ2 K=>by
  rw[h2]at K;have:=(K.2.1.cells k (by rw[List.length_set];exact hk)).1;rw[List.getElem_set_self]at this;exact this.trans (congrArg (fun z=>some (Value.int .i64 z)) hp)
 replace HC:=Lib.hid HC;replace HCv:=Lib.hid HCv;replace HCp:=Lib.hid HCp;clear h2;generalize sp[k].a=xa at*;generalize σ.op 1 (nx P ((k:Int)+1)) false 0=σ2 at*;generalize nx P ((k:Int)+1)=p at*;clear hp;by_cases hx:σ.get p=0
 ·rw[if_pos hx]
  rw[hx]at HSt HC HCv;clear hx;go_enter Tryz.func377,Tryz.ntmps377;go_wp2_with fail
  go_region_held3(fun V=>V.cell? ⟨gl,0,none⟩=some (.pointer (some ⟨ga,0,none⟩)))
   (first|exact q0|exact k2|exact k3)
   (first
    |(go_at_call 372;refine(HX.out (w.drewN 1) (HH.out.drewN 1)).mono ?_;rintro e wx ⟨rfl,hwx⟩;obtain rfl:=hwx.symm)
    |(go_at_call 105;refine(HSt.out _ (HH.out.drewN 1)).mono ?_;rintro e w2 ⟨rfl,ha2,hm2⟩;have k2:=keepM hm2 (show(w.drewN 1).cell? _=_ from q0) (by simp;omega);have H2:=Lib.hid ((HH.out.drewN 1).arena ha2 hm2);have c2:=(HC.out _ _ H2.out).1;have f2:=(HC.out _ _ H2.out).2.1;have k3:=((World.cell?_setCell_far w2 ⟨hs,k*4+1,none⟩ ⟨gl,0,none⟩ (.int .i64 0) (by simp;omega))).trans k2))
  have H3:=(HC.out _ _ H2.out).2.2;have hmm:Mod [ga,ha,hs] w (w2.setCell ⟨hs,k*4+1,none⟩ (.int .i64 0)):=(hm0.trans (hm2.sub (by simp))).setCell (by simp) _;have v1:=(HCv.out _ _ H3);have v0:=(HCp.out _ _ H3);replace H3:=Lib.hid H3;clear k2 k3 ha2 hm2 c2 f2;generalize w2.setCell ⟨hs,k*4+1,none⟩ (.int .i64 0)=w3 at*;go_wp2_with fail;go_ret;exact⟨rfl,H3.out,hmm⟩
 ·rw[if_neg hx]
  generalize σ.get p=x at*;have e9:=ibne hx;clear hx;go_enter Tryz.func377,Tryz.ntmps377;go_wp2_with fail
  go_region_held3(fun V=>V.cell? ⟨gl,0,none⟩=some (.pointer (some ⟨ga,0,none⟩)))
   (first|exact q0|exact k2|exact k3)
   (first
    |(go_at_call 372;refine(HX.out (w.drewN 1) (HH.out.drewN 1)).mono ?_;rintro e wx ⟨rfl,hwx⟩;obtain rfl:=hwx.symm)
    |(go_at_call 105;refine(HSt.out _ (HH.out.drewN 1)).mono ?_;rintro e w2 ⟨rfl,ha2,hm2⟩;have k2:=keepM hm2 (show(w.drewN 1).cell? _=_ from q0) (by simp;omega);have H2:=Lib.hid ((HH.out.drewN 1).arena ha2 hm2);have c2:=(HC.out _ _ H2.out).1;have f2:=(HC.out _ _ H2.out).2.1;have k3:=((World.cell?_setCell_far w2 ⟨hs,k*4+1,none⟩ ⟨gl,0,none⟩ (.int .i64 x) (by simp;omega))).trans k2))
  have H3:=(HC.out _ _ H2.out).2.2;have hmm:Mod [ga,ha,hs] w (w2.setCell ⟨hs,k*4+1,none⟩ (.int .i64 x)):=(hm0.trans (hm2.sub (by simp))).setCell (by simp) _;have v1:=(HCv.out _ _ H3);have v0:=(HCp.out _ _ H3);replace H3:=Lib.hid H3;clear k2 k3 ha2 hm2 c2 f2;generalize w2.setCell ⟨hs,k*4+1,none⟩ (.int .i64 x)=w3 at*;go_wp2_with fail;go_ret;exact⟨rfl,H3.out,hmm⟩
end
end Go.Proofs.YtfmiioddhpkdkaaGreat.Mc
