/- Merged texts: Mc2, Mc3, Mc4. -/
import Derived.Test.YtfmiioddhpkdkaaGreatWz7
import Derived.Deep.RegionHeld3
import Derived.Laws.EntriesVeiled
set_option linter.unusedVariables false
set_option linter.unusedSimpArgs false
set_option maxRecDepth 100000
set_option maxHeartbeats 8000000
namespace Go.Proofs.YtfmiioddhpkdkaaGreat.Mc
open Go.RowKit Ara Lok
def pcOk (p:Int):Prop:=p=0∨p=1∨p=2∨p=3∨p=4∨p=5∨p=10∨p=11∨p=12∨p=13∨p=14
def Num (P:Par)(σ:Ar)(sp:List Sp):Prop:=(1≤P.tail∧P.tail≤4096)∧(∀k (h:k<sp.length),(0≤sp[k].a∧sp[k].a≤4096)∧pcOk sp[k].pc)∧σ.ops≤1000000
section
variable(gl ga ha hs:Nat)(P:Par)(σ:Ar)(sp:List Sp)(w:World)(H:LkAt w gl ga ha hs P σ sp)(hP:1≤P.tail∧P.tail≤4096)
include H hP
theorem next_lk (x:Int)(h:0≤x∧x≤4096):Calls Tryz.prog 372 #[.pointer (some ⟨gl,0,none⟩),.int .i64 x] w fun e w'=>e= .returned (.int .i64 (nx P x))∧w'=w:=by
 obtain⟨⟨cc,q0,q1,q2⟩,_⟩:=H.heads;unfold nx;have e1:IntKind.i64.wrap (2*x)=2*x:=IntWalk.i64_in _ (by omega);have e2:IntKind.i64.wrap (P.tail+2*x)=P.tail+2*x:=IntWalk.i64_in _ (by omega);have e3:IntKind.i64.wrap (P.tail+2*x-1)=P.tail+2*x-1:=IntWalk.i64_in _ (by omega);clear H;go_enter Tryz.func372,Tryz.ntmps372;go_wp2_with fail;go_ret;exact⟨rfl,rfl⟩
theorem wait_lk (x:Int)(h:0≤x∧x≤4096):Calls Tryz.prog 378 #[.pointer (some ⟨gl,0,none⟩),.int .i64 x] w fun e w'=>e= .returned (.int .i64 (wt P x))∧w'=w:=by
 obtain⟨⟨cc,q0,q1,q2⟩,_⟩:=H.heads;unfold wt;have e1:IntKind.i64.wrap (2*x)=2*x:=IntWalk.i64_in _ (by omega);have e2:IntKind.i64.wrap (P.tail+2*x)=P.tail+2*x:=IntWalk.i64_in _ (by omega);clear H;go_enter Tryz.func378,Tryz.ntmps378;go_wp2_with fail;go_ret;exact⟨rfl,rfl⟩
end
section
variable(gl ga ha hs:Nat)(P:Par)(σ:Ar)(sp:List Sp)(w:World)(H:LkAt w gl ga ha hs P σ sp)(hN:Num P σ sp)(k:Nat)(hk:k<sp.length)
include H hN
theorem in_one (hp:sp[k].pc=1):Calls Tryz.prog 376 #[.pointer (some ⟨gl,0,none⟩),.pointer (some ⟨hs,k*4,none⟩),.int .i64 ((k:Int)+1)] w fun e w'=>e= .returned (.int .i64 2)∧LkAt w' gl ga ha hs P (σ.op 2 (nx P ((k:Int)+1)) true 0) sp∧Mod [ga,ha,hs] w w':=by
 have HSt:=Lib.hid (fun W (K:LkAt W gl ga ha hs P σ sp)=>store_any ga ha σ W K.1 hN.2.2 (nx P ((k:Int)+1)) 0);obtain⟨hP,hS,ho⟩:=hN;obtain⟨d1,d2,d3,d4,d5⟩:=H.2.2.2.2;obtain⟨⟨cc,q0,q1,q2⟩,hl32⟩:=H.heads;obtain⟨s0,s1,s2,s3,sf⟩:=H.2.1.cells k hk;have hna:=(hS k hk).1;rw[hp]at s0;have HH:=Lib.hid H;have HK:=Lib.hid hk;have hm0:Mod [ga,ha,hs] w (w.drewN 1):=(Mod.refl _ _).drewN 1;clear H s2 s3 hS;have HX:=Lib.hid (fun W (K:LkAt W gl ga ha hs P σ sp)=>next_lk gl ga ha hs P σ sp W K hP ((k:Int)+1) (by omega));generalize sp[k].a=xa at*;generalize σ.op 2 (nx P ((k:Int)+1)) true 0=σ2 at*;generalize nx P ((k:Int)+1)=p at*;clear hp;go_enter Tryz.func376,Tryz.ntmps376;go_wp2_with fail
 go_region_held3(fun V=>V.cell? ⟨gl,0,none⟩=some (.pointer (some ⟨ga,0,none⟩))∧V.cell? ⟨hs,k*4+1,none⟩=some (.int .i64 xa))
  (first|exact⟨q0,s1⟩|exact k2)
  (first
   |(go_at_call 372;refine(HX.out (w.drewN 1) (HH.out.drewN 1)).mono ?_;rintro e wx ⟨rfl,hwx⟩;obtain rfl:=hwx.symm)
   |(go_at_call 109;refine(HSt.out _ (HH.out.drewN 1)).mono ?_;rintro e w2 ⟨rfl,ha2,hm2⟩;have k2:=And.intro (keepM hm2 (show(w.drewN 1).cell? _=_ from q0) (by simp;omega)) (keepM hm2 (show(w.drewN 1).cell? _=_ from s1) (by simp;omega));have H2:=Lib.hid ((HH.out.drewN 1).arena ha2 hm2)))
 have hmm:Mod [ga,ha,hs] w w2:=hm0.trans (hm2.sub (by simp));clear k2 ha2 hm2;go_wp2_with fail;go_ret;exact⟨rfl,H2.out,hmm⟩
theorem in_two (hp:sp[k].pc=2):Calls Tryz.prog 376 #[.pointer (some ⟨gl,0,none⟩),.pointer (some ⟨hs,k*4,none⟩),.int .i64 ((k:Int)+1)] w fun e w'=>e= .returned (.int .i64 3)∧LkAt w' gl ga ha hs P (σ.op 2 (wt P ((k:Int)+1)) true 1) sp∧Mod [ga,ha,hs] w w':=by
 have HSt:=Lib.hid (fun W (K:LkAt W gl ga ha hs P σ sp)=>store_any ga ha σ W K.1 hN.2.2 (wt P ((k:Int)+1)) 1);obtain⟨hP,hS,ho⟩:=hN;obtain⟨d1,d2,d3,d4,d5⟩:=H.2.2.2.2;obtain⟨⟨cc,q0,q1,q2⟩,hl32⟩:=H.heads;obtain⟨s0,s1,s2,s3,sf⟩:=H.2.1.cells k hk;have hna:=(hS k hk).1;rw[hp]at s0;have HH:=Lib.hid H;have HK:=Lib.hid hk;have hm0:Mod [ga,ha,hs] w (w.drewN 1):=(Mod.refl _ _).drewN 1;clear H s2 s3 hS;have HX:=Lib.hid (fun W (K:LkAt W gl ga ha hs P σ sp)=>wait_lk gl ga ha hs P σ sp W K hP ((k:Int)+1) (by omega));generalize sp[k].a=xa at*;generalize σ.op 2 (wt P ((k:Int)+1)) true 1=σ2 at*;generalize wt P ((k:Int)+1)=p at*;clear hp;go_enter Tryz.func376,Tryz.ntmps376;go_wp2_with fail
 go_region_held3(fun V=>V.cell? ⟨gl,0,none⟩=some (.pointer (some ⟨ga,0,none⟩))∧V.cell? ⟨hs,k*4+1,none⟩=some (.int .i64 xa))
  (first|exact⟨q0,s1⟩|exact k2)
  (first
   |(go_at_call 378;refine(HX.out (w.drewN 1) (HH.out.drewN 1)).mono ?_;rintro e wx ⟨rfl,hwx⟩;obtain rfl:=hwx.symm)
   |(go_at_call 109;refine(HSt.out _ (HH.out.drewN 1)).mono ?_;rintro e w2 ⟨rfl,ha2,hm2⟩;have k2:=And.intro (keepM hm2 (show(w.drewN 1).cell? _=_ from q0) (by simp;omega)) (keepM hm2 (show(w.drewN 1).cell? _=_ from s1) (by simp;omega));have H2:=Lib.hid ((HH.out.drewN 1).arena ha2 hm2)))
 have hmm:Mod [ga,ha,hs] w w2:=hm0.trans (hm2.sub (by simp));clear k2 ha2 hm2;go_wp2_with fail;go_ret;exact⟨rfl,H2.out,hmm⟩
theorem in_four (hp:sp[k].pc=4):Calls Tryz.prog 376 #[.pointer (some ⟨gl,0,none⟩),.pointer (some ⟨hs,k*4,none⟩),.int .i64 ((k:Int)+1)] w fun e w'=>e= .returned (.int .i64 5)∧LkAt w' gl ga ha hs P (σ.op 2 (nx P sp[k].a) true ((k:Int)+1)) sp∧Mod [ga,ha,hs] w w':=by
 have HSt:=Lib.hid (fun W (K:LkAt W gl ga ha hs P σ sp)=>store_any ga ha σ W K.1 hN.2.2 (nx P sp[k].a) ((k:Int)+1));obtain⟨hP,hS,ho⟩:=hN;obtain⟨d1,d2,d3,d4,d5⟩:=H.2.2.2.2;obtain⟨⟨cc,q0,q1,q2⟩,hl32⟩:=H.heads;obtain⟨s0,s1,s2,s3,sf⟩:=H.2.1.cells k hk;have hna:=(hS k hk).1;rw[hp]at s0;have HH:=Lib.hid H;have HK:=Lib.hid hk;have hm0:Mod [ga,ha,hs] w (w.drewN 1):=(Mod.refl _ _).drewN 1;clear H s2 s3 hS;have HX:=Lib.hid (fun W (K:LkAt W gl ga ha hs P σ sp)=>next_lk gl ga ha hs P σ sp W K hP sp[k].a hna);generalize sp[k].a=xa at*;generalize σ.op 2 (nx P xa) true ((k:Int)+1)=σ2 at*;generalize nx P xa=p at*;clear hp;go_enter Tryz.func376,Tryz.ntmps376;go_wp2_with fail
 go_region_held3(fun V=>V.cell? ⟨gl,0,none⟩=some (.pointer (some ⟨ga,0,none⟩))∧V.cell? ⟨hs,k*4+1,none⟩=some (.int .i64 xa))
  (first|exact⟨q0,s1⟩|exact k2)
  (first
   |(go_at_call 372;refine(HX.out (w.drewN 1) (HH.out.drewN 1)).mono ?_;rintro e wx ⟨rfl,hwx⟩;obtain rfl:=hwx.symm)
   |(go_at_call 109;refine(HSt.out _ (HH.out.drewN 1)).mono ?_;rintro e w2 ⟨rfl,ha2,hm2⟩;have k2:=And.intro (keepM hm2 (show(w.drewN 1).cell? _=_ from q0) (by simp;omega)) (keepM hm2 (show(w.drewN 1).cell? _=_ from s1) (by simp;omega));have H2:=Lib.hid ((HH.out.drewN 1).arena ha2 hm2)))
 have hmm:Mod [ga,ha,hs] w w2:=hm0.trans (hm2.sub (by simp));clear k2 ha2 hm2;go_wp2_with fail;go_ret;exact⟨rfl,H2.out,hmm⟩
theorem in_five (hp:sp[k].pc=5):Calls Tryz.prog 376 #[.pointer (some ⟨gl,0,none⟩),.pointer (some ⟨hs,k*4,none⟩),.int .i64 ((k:Int)+1)] w fun e w'=>e= .returned (.int .i64 (if σ.get (wt P ((k:Int)+1))=0 then 10 else 5))∧LkAt w' gl ga ha hs P (σ.op 1 (wt P ((k:Int)+1)) false 0) sp∧Mod [ga,ha,hs] w w':=by
 have HSt:=Lib.hid (fun W (K:LkAt W gl ga ha hs P σ sp)=>load_any ga ha σ W K.1 hN.2.2 (wt P ((k:Int)+1)));obtain⟨hP,hS,ho⟩:=hN;obtain⟨d1,d2,d3,d4,d5⟩:=H.2.2.2.2;obtain⟨⟨cc,q0,q1,q2⟩,hl32⟩:=H.heads;obtain⟨s0,s1,s2,s3,sf⟩:=H.2.1.cells k hk;have hna:=(hS k hk).1;rw[hp]at s0;have HH:=Lib.hid H;have HK:=Lib.hid hk;have hm0:Mod [ga,ha,hs] w (w.drewN 1):=(Mod.refl _ _).drewN 1;clear H s2 s3 hS;have HX:=Lib.hid (fun W (K:LkAt W gl ga ha hs P σ sp)=>wait_lk gl ga ha hs P σ sp W K hP ((k:Int)+1) (by omega));generalize sp[k].a=xa at*;generalize σ.op 1 (wt P ((k:Int)+1)) false 0=σ2 at*;generalize wt P ((k:Int)+1)=p at*;clear hp;by_cases hx:σ.get p=0
 ·rw[if_pos hx]
  rw[hx]at HSt;clear hx;go_enter Tryz.func376,Tryz.ntmps376;go_wp2_with fail
  go_region_held3(fun V=>V.cell? ⟨gl,0,none⟩=some (.pointer (some ⟨ga,0,none⟩))∧V.cell? ⟨hs,k*4+1,none⟩=some (.int .i64 xa))
   (first|exact⟨q0,s1⟩|exact k2)
   (first
    |(go_at_call 378;refine(HX.out (w.drewN 1) (HH.out.drewN 1)).mono ?_;rintro e wx ⟨rfl,hwx⟩;obtain rfl:=hwx.symm)
    |(go_at_call 105;refine(HSt.out _ (HH.out.drewN 1)).mono ?_;rintro e w2 ⟨rfl,ha2,hm2⟩;have k2:=And.intro (keepM hm2 (show(w.drewN 1).cell? _=_ from q0) (by simp;omega)) (keepM hm2 (show(w.drewN 1).cell? _=_ from s1) (by simp;omega));have H2:=Lib.hid ((HH.out.drewN 1).arena ha2 hm2)))
  have hmm:Mod [ga,ha,hs] w w2:=hm0.trans (hm2.sub (by simp));clear k2 ha2 hm2;go_wp2_with fail;go_ret;exact⟨rfl,H2.out,hmm⟩
 ·rw[if_neg hx]
  generalize σ.get p=x at*;have e9:=ibeq_no hx;clear hx;go_enter Tryz.func376,Tryz.ntmps376;go_wp2_with fail
  go_region_held3(fun V=>V.cell? ⟨gl,0,none⟩=some (.pointer (some ⟨ga,0,none⟩))∧V.cell? ⟨hs,k*4+1,none⟩=some (.int .i64 xa))
   (first|exact⟨q0,s1⟩|exact k2)
   (first
    |(go_at_call 378;refine(HX.out (w.drewN 1) (HH.out.drewN 1)).mono ?_;rintro e wx ⟨rfl,hwx⟩;obtain rfl:=hwx.symm)
    |(go_at_call 105;refine(HSt.out _ (HH.out.drewN 1)).mono ?_;rintro e w2 ⟨rfl,ha2,hm2⟩;have k2:=And.intro (keepM hm2 (show(w.drewN 1).cell? _=_ from q0) (by simp;omega)) (keepM hm2 (show(w.drewN 1).cell? _=_ from s1) (by simp;omega));have H2:=Lib.hid ((HH.out.drewN 1).arena ha2 hm2)))
  have hmm:Mod [ga,ha,hs] w w2:=hm0.trans (hm2.sub (by simp));clear k2 ha2 hm2;go_wp2_with fail;go_ret;exact⟨rfl,H2.out,hmm⟩
theorem in_three (hp:sp[k].pc=3)(sp2:List Sp)(h2:sp2=sp.set k {sp[k]with a:=σ.get P.tail}):Calls Tryz.prog 376 #[.pointer (some ⟨gl,0,none⟩),.pointer (some ⟨hs,k*4,none⟩),.int .i64 ((k:Int)+1)] w fun e w'=>e= .returned (.int .i64 (if σ.get P.tail=0 then 10 else 4))∧LkAt w' gl ga ha hs P (σ.op 3 P.tail true ((k:Int)+1)) sp2∧Mod [ga,ha,hs] w w':=by
 have HSt:=Lib.hid (fun W (K:LkAt W gl ga ha hs P σ sp)=>swap_any ga ha σ W K.1 hN.2.2 P.tail ((k:Int)+1));obtain⟨hP,hS,ho⟩:=hN;obtain⟨d1,d2,d3,d4,d5⟩:=H.2.2.2.2;obtain⟨⟨cc,q0,q1,q2⟩,hl32⟩:=H.heads;obtain⟨s0,s1,s2,s3,sf⟩:=H.2.1.cells k hk;have hna:=(hS k hk).1;rw[hp]at s0;have HH:=Lib.hid H;have HK:=Lib.hid hk;have hm0:Mod [ga,ha,hs] w (w.drewN 1):=(Mod.refl _ _).drewN 1;clear H s2 s3 hS
 have HC:∀W σ2,LkAt W gl ga ha hs P σ2 sp→W.cell? ⟨hs,k*4+1,none⟩=some (.int .i64 sp[k].a)∧W.frozen? ⟨hs,k*4+1,none⟩=false∧LkAt (W.setCell ⟨hs,k*4+1,none⟩ (.int .i64 (σ.get P.tail))) gl ga ha hs P σ2 sp2:=
  fun W σ2 K=>⟨(K.2.1.cells k hk).2.1,(K.2.1.cells k hk).2.2.2.2 (k*4+1),by rw[h2];exact K.spots (K.2.1.setA k hk (σ.get P.tail)) ((Mod.refl [hs] W).setCell (by simp) _) (by rw[List.length_set])⟩
 have HCv:∀W σ2,LkAt W gl ga ha hs P σ2 sp2→W.cell? ⟨hs,k*4+1,none⟩=some (.int .i64 (σ.get P.tail)):=fun W σ2 K=>by
  rw[h2]at K;have:=(K.2.1.cells k (by rw[List.length_set];exact hk)).2.1;rw[List.getElem_set_self]at this;exact this
 have HCp:∀W σ2,LkAt W gl ga ha hs P σ2 sp2→W.cell? ⟨hs,k*4,none⟩=some (.int .i64 3):=fun W σ2 K=>by
  rw[h2]at K;have:=(K.2.1.cells k (by rw[List.length_set];exact hk)).1;rw[List.getElem_set_self]at this;exact this.trans (congrArg (fun z=>some (Value.int .i64 z)) hp)
 replace HC:=Lib.hid HC;replace HCv:=Lib.hid HCv;replace HCp:=Lib.hid HCp;clear h2;generalize sp[k].a=xa at*;generalize σ.op 3 P.tail true ((k:Int)+1)=σ2 at*;clear hp;by_cases hx:σ.get P.tail=0
 ·rw[if_pos hx]
  rw[hx]at HSt HC HCv;clear hx;go_enter Tryz.func376,Tryz.ntmps376;go_wp2_with fail
  go_region_held3(fun V=>V.cell? ⟨gl,0,none⟩=some (.pointer (some ⟨ga,0,none⟩))∧V.cell? ⟨gl,1,none⟩=some (.int .i64 P.tail))
   (first|exact⟨q0,q1⟩|exact k2|exact k3)
   (first
    |(go_at_call 201;refine(HSt.out _ (HH.out.drewN 1)).mono ?_;rintro e w2 ⟨rfl,ha2,hm2⟩;have k2:=And.intro (keepM hm2 (show(w.drewN 1).cell? _=_ from q0) (by simp;omega)) (keepM hm2 (show(w.drewN 1).cell? _=_ from q1) (by simp;omega));have H2:=Lib.hid ((HH.out.drewN 1).arena ha2 hm2);have c2:=(HC.out _ _ H2.out).1;have f2:=(HC.out _ _ H2.out).2.1;have k3:=And.intro (((World.cell?_setCell_far w2 ⟨hs,k*4+1,none⟩ ⟨gl,0,none⟩ (.int .i64 0) (by simp;omega))).trans k2.1) (((World.cell?_setCell_far w2 ⟨hs,k*4+1,none⟩ ⟨gl,1,none⟩ (.int .i64 0) (by simp;omega))).trans k2.2)))
  have H3:=(HC.out _ _ H2.out).2.2;have hmm:Mod [ga,ha,hs] w (w2.setCell ⟨hs,k*4+1,none⟩ (.int .i64 0)):=(hm0.trans (hm2.sub (by simp))).setCell (by simp) _;have v1:=(HCv.out _ _ H3);have v0:=(HCp.out _ _ H3);replace H3:=Lib.hid H3;clear k2 k3 ha2 hm2 c2 f2;generalize w2.setCell ⟨hs,k*4+1,none⟩ (.int .i64 0)=w3 at*;go_wp2_with fail;go_ret;exact⟨rfl,H3.out,hmm⟩
 ·rw[if_neg hx]
  generalize σ.get P.tail=x at*;have e9:=ibeq_no hx;clear hx;go_enter Tryz.func376,Tryz.ntmps376;go_wp2_with fail
  go_region_held3(fun V=>V.cell? ⟨gl,0,none⟩=some (.pointer (some ⟨ga,0,none⟩))∧V.cell? ⟨gl,1,none⟩=some (.int .i64 P.tail))
   (first|exact⟨q0,q1⟩|exact k2|exact k3)
   (first
    |(go_at_call 201;refine(HSt.out _ (HH.out.drewN 1)).mono ?_;rintro e w2 ⟨rfl,ha2,hm2⟩;have k2:=And.intro (keepM hm2 (show(w.drewN 1).cell? _=_ from q0) (by simp;omega)) (keepM hm2 (show(w.drewN 1).cell? _=_ from q1) (by simp;omega));have H2:=Lib.hid ((HH.out.drewN 1).arena ha2 hm2);have c2:=(HC.out _ _ H2.out).1;have f2:=(HC.out _ _ H2.out).2.1;have k3:=And.intro (((World.cell?_setCell_far w2 ⟨hs,k*4+1,none⟩ ⟨gl,0,none⟩ (.int .i64 x) (by simp;omega))).trans k2.1) (((World.cell?_setCell_far w2 ⟨hs,k*4+1,none⟩ ⟨gl,1,none⟩ (.int .i64 x) (by simp;omega))).trans k2.2)))
  have H3:=(HC.out _ _ H2.out).2.2;have hmm:Mod [ga,ha,hs] w (w2.setCell ⟨hs,k*4+1,none⟩ (.int .i64 x)):=(hm0.trans (hm2.sub (by simp))).setCell (by simp) _;have v1:=(HCv.out _ _ H3);have v0:=(HCp.out _ _ H3);replace H3:=Lib.hid H3;clear k2 k3 ha2 hm2 c2 f2;generalize w2.setCell ⟨hs,k*4+1,none⟩ (.int .i64 x)=w3 at*;go_wp2_with fail;go_ret;exact⟨rfl,H3.out,hmm⟩
theorem out_14 (hp:sp[k].pc=14):Calls Tryz.prog 377 #[.pointer (some ⟨gl,0,none⟩),.pointer (some ⟨hs,k*4,none⟩),.int .i64 ((k:Int)+1)] w fun e w'=>e= .returned (.int .i64 0)∧LkAt w' gl ga ha hs P (σ.op 2 (wt P sp[k].a) true 0) sp∧Mod [ga,ha,hs] w w':=by
 have HSt:=Lib.hid (fun W (K:LkAt W gl ga ha hs P σ sp)=>store_any ga ha σ W K.1 hN.2.2 (wt P sp[k].a) 0);obtain⟨hP,hS,ho⟩:=hN;obtain⟨d1,d2,d3,d4,d5⟩:=H.2.2.2.2;obtain⟨⟨cc,q0,q1,q2⟩,hl32⟩:=H.heads;obtain⟨s0,s1,s2,s3,sf⟩:=H.2.1.cells k hk;have hna:=(hS k hk).1;rw[hp]at s0;have HH:=Lib.hid H;have HK:=Lib.hid hk;have hm0:Mod [ga,ha,hs] w (w.drewN 1):=(Mod.refl _ _).drewN 1;clear H s2 s3 hS;have HX:=Lib.hid (fun W (K:LkAt W gl ga ha hs P σ sp)=>wait_lk gl ga ha hs P σ sp W K hP sp[k].a hna);generalize sp[k].a=xa at*;generalize σ.op 2 (wt P xa) true 0=σ2 at*;generalize wt P xa=p at*;clear hp;go_enter Tryz.func377,Tryz.ntmps377;go_wp2_with fail
 go_region_held3(fun V=>V.cell? ⟨gl,0,none⟩=some (.pointer (some ⟨ga,0,none⟩))∧V.cell? ⟨hs,k*4+1,none⟩=some (.int .i64 xa))
  (first|exact⟨q0,s1⟩|exact k2)
  (first
   |(go_at_call 378;refine(HX.out (w.drewN 1) (HH.out.drewN 1)).mono ?_;rintro e wx ⟨rfl,hwx⟩;obtain rfl:=hwx.symm)
   |(go_at_call 109;refine(HSt.out _ (HH.out.drewN 1)).mono ?_;rintro e w2 ⟨rfl,ha2,hm2⟩;have k2:=And.intro (keepM hm2 (show(w.drewN 1).cell? _=_ from q0) (by simp;omega)) (keepM hm2 (show(w.drewN 1).cell? _=_ from s1) (by simp;omega));have H2:=Lib.hid ((HH.out.drewN 1).arena ha2 hm2)))
 have hmm:Mod [ga,ha,hs] w w2:=hm0.trans (hm2.sub (by simp));clear k2 ha2 hm2;go_wp2_with fail;go_ret;exact⟨rfl,H2.out,hmm⟩
theorem out_12 (hp:sp[k].pc=12):Calls Tryz.prog 377 #[.pointer (some ⟨gl,0,none⟩),.pointer (some ⟨hs,k*4,none⟩),.int .i64 ((k:Int)+1)] w fun e w'=>e= .returned (.int .i64 (if(σ.has P.tail&&(σ.get P.tail==(k:Int)+1))=true then 0 else 13))∧LkAt w' gl ga ha hs P (σ.op 4 P.tail (σ.has P.tail&&(σ.get P.tail==(k:Int)+1)) 0) sp∧Mod [ga,ha,hs] w w':=by
 have HSt:=Lib.hid (fun W (K:LkAt W gl ga ha hs P σ sp)=>cas_any ga ha σ W K.1 hN.2.2 P.tail ((k:Int)+1) 0);obtain⟨hP,hS,ho⟩:=hN;obtain⟨d1,d2,d3,d4,d5⟩:=H.2.2.2.2;obtain⟨⟨cc,q0,q1,q2⟩,hl32⟩:=H.heads;obtain⟨s0,s1,s2,s3,sf⟩:=H.2.1.cells k hk;have hna:=(hS k hk).1;rw[hp]at s0;have HH:=Lib.hid H;have HK:=Lib.hid hk;have hm0:Mod [ga,ha,hs] w (w.drewN 1):=(Mod.refl _ _).drewN 1;clear H s2 s3 hS;generalize sp[k].a=xa at*;clear hp;generalize(σ.has P.tail&&(σ.get P.tail==(k:Int)+1))=b at*;generalize σ.op 4 P.tail b 0=σ2 at*;cases b
 ·rw[if_neg (by decide)]
  go_enter Tryz.func377,Tryz.ntmps377;go_wp2_with fail
  go_region_held3(fun V=>V.cell? ⟨gl,0,none⟩=some (.pointer (some ⟨ga,0,none⟩))∧V.cell? ⟨gl,1,none⟩=some (.int .i64 P.tail))
   (first|exact⟨q0,q1⟩|exact k2)
   (first
    |(go_at_call 202;refine(HSt.out _ (HH.out.drewN 1)).mono ?_;rintro e w2 ⟨rfl,ha2,hm2⟩;have k2:=And.intro (keepM hm2 (show(w.drewN 1).cell? _=_ from q0) (by simp;omega)) (keepM hm2 (show(w.drewN 1).cell? _=_ from q1) (by simp;omega));have H2:=Lib.hid ((HH.out.drewN 1).arena ha2 hm2)))
  have hmm:Mod [ga,ha,hs] w w2:=hm0.trans (hm2.sub (by simp));clear k2 ha2 hm2;go_wp2_with fail;go_ret;exact⟨rfl,H2.out,hmm⟩
 ·rw[if_pos rfl]
  go_enter Tryz.func377,Tryz.ntmps377;go_wp2_with fail
  go_region_held3(fun V=>V.cell? ⟨gl,0,none⟩=some (.pointer (some ⟨ga,0,none⟩))∧V.cell? ⟨gl,1,none⟩=some (.int .i64 P.tail))
   (first|exact⟨q0,q1⟩|exact k2)
   (first
    |(go_at_call 202;refine(HSt.out _ (HH.out.drewN 1)).mono ?_;rintro e w2 ⟨rfl,ha2,hm2⟩;have k2:=And.intro (keepM hm2 (show(w.drewN 1).cell? _=_ from q0) (by simp;omega)) (keepM hm2 (show(w.drewN 1).cell? _=_ from q1) (by simp;omega));have H2:=Lib.hid ((HH.out.drewN 1).arena ha2 hm2)))
  have hmm:Mod [ga,ha,hs] w w2:=hm0.trans (hm2.sub (by simp));clear k2 ha2 hm2;go_wp2_with fail;go_ret;exact⟨rfl,H2.out,hmm⟩
theorem out_11 (hp:sp[k].pc=11)(sp2:List Sp)(h2:sp2=sp.set k {sp[k]with a:=σ.get (nx P ((k:Int)+1))}):Calls Tryz.prog 377 #[.pointer (some ⟨gl,0,none⟩),.pointer (some ⟨hs,k*4,none⟩),.int .i64 ((k:Int)+1)] w fun e w'=>e= .returned (.int .i64 (if σ.get (nx P ((k:Int)+1))=0 then 12 else 14))∧LkAt w' gl ga ha hs P (σ.op 1 (nx P ((k:Int)+1)) false 0) sp2∧Mod [ga,ha,hs] w w':=by
 have HSt:=Lib.hid (fun W (K:LkAt W gl ga ha hs P σ sp)=>load_any ga ha σ W K.1 hN.2.2 (nx P ((k:Int)+1)));obtain⟨hP,hS,ho⟩:=hN;obtain⟨d1,d2,d3,d4,d5⟩:=H.2.2.2.2;obtain⟨⟨cc,q0,q1,q2⟩,hl32⟩:=H.heads;obtain⟨s0,s1,s2,s3,sf⟩:=H.2.1.cells k hk;have hna:=(hS k hk).1;rw[hp]at s0;have HH:=Lib.hid H;have HK:=Lib.hid hk;have hm0:Mod [ga,ha,hs] w (w.drewN 1):=(Mod.refl _ _).drewN 1;clear H s2 s3 hS;have HX:=Lib.hid (fun W (K:LkAt W gl ga ha hs P σ sp)=>next_lk gl ga ha hs P σ sp W K hP ((k:Int)+1) (by omega))
 have HC:∀W σ2,LkAt W gl ga ha hs P σ2 sp→W.cell? ⟨hs,k*4+1,none⟩=some (.int .i64 sp[k].a)∧W.frozen? ⟨hs,k*4+1,none⟩=false∧LkAt (W.setCell ⟨hs,k*4+1,none⟩ (.int .i64 (σ.get (nx P ((k:Int)+1))))) gl ga ha hs P σ2 sp2:=
  fun W σ2 K=>⟨(K.2.1.cells k hk).2.1,(K.2.1.cells k hk).2.2.2.2 (k*4+1),by rw[h2];exact K.spots (K.2.1.setA k hk (σ.get (nx P ((k:Int)+1)))) ((Mod.refl [hs] W).setCell (by simp) _) (by rw[List.length_set])⟩
 have HCv:∀W σ2,LkAt W gl ga ha hs P σ2 sp2→W.cell? ⟨hs,k*4+1,none⟩=some (.int .i64 (σ.get (nx P ((k:Int)+1)))):=fun W σ2 K=>by
  rw[h2]at K;have:=(K.2.1.cells k (by rw[List.length_set];exact hk)).2.1;rw[List.getElem_set_self]at this;exact this
 have HCp:∀W σ2,LkAt W gl ga ha hs P σ2 sp2→W.cell? ⟨hs,k*4,none⟩=some (.int .i64 11):=fun W σ2 K=>by
  rw[h2]at K;have:=(K.2.1.cells k (by rw[List.length_set];exact hk)).1;rw[List.getElem_set_self]at this;exact this.trans (congrArg (fun z=>some (Value.int .i64 z)) hp)
 replace HC:=Lib.hid HC;replace HCv:=Lib.hid HCv;replace HCp:=Lib.hid HCp;clear h2;generalize sp[k].a=xa at*;generalize σ.op 1 (nx P ((k:Int)+1)) false 0=σ2 at*;generalize nx P ((k:Int)+1)=p at*;clear hp;by_cases hx:σ.get p=0
 ·rw[if_pos hx]
  rw[hx]at HSt HC HCv;clear hx;go_enter Tryz.func377,Tryz.ntmps377;go_wp2_with fail
  go_region_held3(fun V=>V.cell? ⟨gl,0,none⟩=some (.pointer (some ⟨ga,0,none⟩)))
   (first|exact q0|exact k2|exact k3)
   (first
    |(go_at_call 372;refine(HX.out (w.drewN 1) (HH.out.drewN 1)).mono ?_;rintro e wx ⟨rfl,hwx⟩;obtain rfl:=hwx.symm)
    |(go_at_call 105;refine(HSt.out _ (HH.out.drewN 1)).mono ?_;rintro e w2 ⟨rfl,ha2,hm2⟩;have k2:=keepM hm2 (show(w.drewN 1).cell? _=_ from q0) (by simp;omega);have H2:=Lib.hid ((HH.out.drewN 1).arena ha2 hm2);have c2:=(HC.out _ _ H2.out).1;have f2:=(HC.out _ _ H2.out).2.1;have k3:=((World.cell?_setCell_far w2 ⟨hs,k*4+1,none⟩ ⟨gl,0,none⟩ (.int .i64 0) (by simp;omega))).trans k2))
  have H3:=(HC.out _ _ H2.out).2.2;have hmm:Mod [ga,ha,hs] w (w2.setCell ⟨hs,k*4+1,none⟩ (.int .i64 0)):=(hm0.trans (hm2.sub (by simp))).setCell (by simp) _;have v1:=(HCv.out _ _ H3);have v0:=(HCp.out _ _ H3);replace H3:=Lib.hid H3;clear k2 k3 ha2 hm2 c2 f2;generalize w2.setCell ⟨hs,k*4+1,none⟩ (.int .i64 0)=w3 at*;go_wp2_with fail;go_ret;exact⟨rfl,H3.out,hmm⟩
 ·rw[if_neg hx]
  generalize σ.get p=x at*;have e9:=ibne hx;clear hx;go_enter Tryz.func377,Tryz.ntmps377;go_wp2_with fail
  go_region_held3(fun V=>V.cell? ⟨gl,0,none⟩=some (.pointer (some ⟨ga,0,none⟩)))
   (first|exact q0|exact k2|exact k3)
   (first
    |(go_at_call 372;refine(HX.out (w.drewN 1) (HH.out.drewN 1)).mono ?_;rintro e wx ⟨rfl,hwx⟩;obtain rfl:=hwx.symm)
    |(go_at_call 105;refine(HSt.out _ (HH.out.drewN 1)).mono ?_;rintro e w2 ⟨rfl,ha2,hm2⟩;have k2:=keepM hm2 (show(w.drewN 1).cell? _=_ from q0) (by simp;omega);have H2:=Lib.hid ((HH.out.drewN 1).arena ha2 hm2);have c2:=(HC.out _ _ H2.out).1;have f2:=(HC.out _ _ H2.out).2.1;have k3:=((World.cell?_setCell_far w2 ⟨hs,k*4+1,none⟩ ⟨gl,0,none⟩ (.int .i64 x) (by simp;omega))).trans k2))
  have H3:=(HC.out _ _ H2.out).2.2;have hmm:Mod [ga,ha,hs] w (w2.setCell ⟨hs,k*4+1,none⟩ (.int .i64 x)):=(hm0.trans (hm2.sub (by simp))).setCell (by simp) _;have v1:=(HCv.out _ _ H3);have v0:=(HCp.out _ _ H3);replace H3:=Lib.hid H3;clear k2 k3 ha2 hm2 c2 f2;generalize w2.setCell ⟨hs,k*4+1,none⟩ (.int .i64 x)=w3 at*;go_wp2_with fail;go_ret;exact⟨rfl,H3.out,hmm⟩
theorem out_13 (hp:sp[k].pc=13)(sp2:List Sp)(h2:sp2=sp.set k {sp[k]with a:=σ.get (nx P ((k:Int)+1))}):Calls Tryz.prog 377 #[.pointer (some ⟨gl,0,none⟩),.pointer (some ⟨hs,k*4,none⟩),.int .i64 ((k:Int)+1)] w fun e w'=>e= .returned (.int .i64 (if σ.get (nx P ((k:Int)+1))=0 then 13 else 14))∧LkAt w' gl ga ha hs P (σ.op 1 (nx P ((k:Int)+1)) false 0) sp2∧Mod [ga,ha,hs] w w':=by
 have HSt:=Lib.hid (fun W (K:LkAt W gl ga ha hs P σ sp)=>load_any ga ha σ W K.1 hN.2.2 (nx P ((k:Int)+1)));obtain⟨hP,hS,ho⟩:=hN;obtain⟨d1,d2,d3,d4,d5⟩:=H.2.2.2.2;obtain⟨⟨cc,q0,q1,q2⟩,hl32⟩:=H.heads;obtain⟨s0,s1,s2,s3,sf⟩:=H.2.1.cells k hk;have hna:=(hS k hk).1;rw[hp]at s0;have HH:=Lib.hid H;have HK:=Lib.hid hk;have hm0:Mod [ga,ha,hs] w (w.drewN 1):=(Mod.refl _ _).drewN 1;clear H s2 s3 hS;have HX:=Lib.hid (fun W (K:LkAt W gl ga ha hs P σ sp)=>next_lk gl ga ha hs P σ sp W K hP ((k:Int)+1) (by omega))
 have HC:∀W σ2,LkAt W gl ga ha hs P σ2 sp→W.cell? ⟨hs,k*4+1,none⟩=some (.int .i64 sp[k].a)∧W.frozen? ⟨hs,k*4+1,none⟩=false∧LkAt (W.setCell ⟨hs,k*4+1,none⟩ (.int .i64 (σ.get (nx P ((k:Int)+1))))) gl ga ha hs P σ2 sp2:=
  fun W σ2 K=>⟨(K.2.1.cells k hk).2.1,(K.2.1.cells k hk).2.2.2.2 (k*4+1),by rw[h2];exact K.spots (K.2.1.setA k hk (σ.get (nx P ((k:Int)+1)))) ((Mod.refl [hs] W).setCell (by simp) _) (by rw[List.length_set])⟩
 have HCv:∀W σ2,LkAt W gl ga ha hs P σ2 sp2→W.cell? ⟨hs,k*4+1,none⟩=some (.int .i64 (σ.get (nx P ((k:Int)+1)))):=fun W σ2 K=>by
  rw[h2]at K;have:=(K.2.1.cells k (by rw[List.length_set];exact hk)).2.1;rw[List.getElem_set_self]at this;exact this
 have HCp:∀W σ2,LkAt W gl ga ha hs P σ2 sp2→W.cell? ⟨hs,k*4,none⟩=some (.int .i64 13):=fun W σ2 K=>by
  rw[h2]at K;have:=(K.2.1.cells k (by rw[List.length_set];exact hk)).1;rw[List.getElem_set_self]at this;exact this.trans (congrArg (fun z=>some (Value.int .i64 z)) hp)
 replace HC:=Lib.hid HC;replace HCv:=Lib.hid HCv;replace HCp:=Lib.hid HCp;clear h2;generalize sp[k].a=xa at*;generalize σ.op 1 (nx P ((k:Int)+1)) false 0=σ2 at*;generalize nx P ((k:Int)+1)=p at*;clear hp;by_cases hx:σ.get p=0
 ·rw[if_pos hx]
  rw[hx]at HSt HC HCv;clear hx;go_enter Tryz.func377,Tryz.ntmps377;go_wp2_with fail
  go_region_held3(fun V=>V.cell? ⟨gl,0,none⟩=some (.pointer (some ⟨ga,0,none⟩)))
   (first|exact q0|exact k2|exact k3)
   (first
    |(go_at_call 372;refine(HX.out (w.drewN 1) (HH.out.drewN 1)).mono ?_;rintro e wx ⟨rfl,hwx⟩;obtain rfl:=hwx.symm)
    |(go_at_call 105;refine(HSt.out _ (HH.out.drewN 1)).mono ?_;rintro e w2 ⟨rfl,ha2,hm2⟩;have k2:=keepM hm2 (show(w.drewN 1).cell? _=_ from q0) (by simp;omega);have H2:=Lib.hid ((HH.out.drewN 1).arena ha2 hm2);have c2:=(HC.out _ _ H2.out).1;have f2:=(HC.out _ _ H2.out).2.1;have k3:=((World.cell?_setCell_far w2 ⟨hs,k*4+1,none⟩ ⟨gl,0,none⟩ (.int .i64 0) (by simp;omega))).trans k2))
  have H3:=(HC.out _ _ H2.out).2.2;have hmm:Mod [ga,ha,hs] w (w2.setCell ⟨hs,k*4+1,none⟩ (.int .i64 0)):=(hm0.trans (hm2.sub (by simp))).setCell (by simp) _;have v1:=(HCv.out _ _ H3);have v0:=(HCp.out _ _ H3);replace H3:=Lib.hid H3;clear k2 k3 ha2 hm2 c2 f2;generalize w2.setCell ⟨hs,k*4+1,none⟩ (.int .i64 0)=w3 at*;go_wp2_with fail;go_ret;exact⟨rfl,H3.out,hmm⟩
 ·rw[if_neg hx]
  generalize σ.get p=x at*;have e9:=ibne hx;clear hx;go_enter Tryz.func377,Tryz.ntmps377;go_wp2_with fail
  go_region_held3(fun V=>V.cell? ⟨gl,0,none⟩=some (.pointer (some ⟨ga,0,none⟩)))
   (first|exact q0|exact k2|exact k3)
   (first
    |(go_at_call 372;refine(HX.out (w.drewN 1) (HH.out.drewN 1)).mono ?_;rintro e wx ⟨rfl,hwx⟩;obtain rfl:=hwx.symm)
    |(go_at_call 105;refine(HSt.out _ (HH.out.drewN 1)).mono ?_;rintro e w2 ⟨rfl,ha2,hm2⟩;have k2:=keepM hm2 (show(w.drewN 1).cell? _=_ from q0) (by simp;omega);have H2:=Lib.hid ((HH.out.drewN 1).arena ha2 hm2);have c2:=(HC.out _ _ H2.out).1;have f2:=(HC.out _ _ H2.out).2.1;have k3:=((World.cell?_setCell_far w2 ⟨hs,k*4+1,none⟩ ⟨gl,0,none⟩ (.int .i64 x) (by simp;omega))).trans k2))
  have H3:=(HC.out _ _ H2.out).2.2;have hmm:Mod [ga,ha,hs] w (w2.setCell ⟨hs,k*4+1,none⟩ (.int .i64 x)):=(hm0.trans (hm2.sub (by simp))).setCell (by simp) _;have v1:=(HCv.out _ _ H3);have v0:=(HCp.out _ _ H3);replace H3:=Lib.hid H3;clear k2 k3 ha2 hm2 c2 f2;generalize w2.setCell ⟨hs,k*4+1,none⟩ (.int .i64 x)=w3 at*;go_wp2_with fail;go_ret;exact⟨rfl,H3.out,hmm⟩
end
end Go.Proofs.YtfmiioddhpkdkaaGreat.Mc
namespace Go.Proofs.YtfmiioddhpkdkaaGreat.Mc
open Go.RowKit Ara Lok
theorem sfld0 (a b c d:Int)(W:World):(Instr.field 134 (.agg #[.int .i64 a,.int .i64 b,.int .i64 c,.int .i64 d]) 0).run Tryz.prog W= .ok (.int .i64 a) W:=by
 simp[Instr.field,run_underlying Tryz.underlying134,asAgg,go_sem]
theorem setaP (sp:List Sp)(k:Nat)(hk:k<sp.length)(v pn:Int)(hk1:k<(sp.set k {sp[k]with a:=v}).length):(sp.set k {sp[k]with a:=v}).set k {(sp.set k {sp[k]with a:=v})[k]with pc:=pn}=sp.set k {sp[k]with pc:=pn,a:=v}:=by
 have e:(sp.set k {sp[k]with a:=v})[k]={sp[k]with a:=v}:=List.getElem_set_self hk1;rw[e,List.set_set]
theorem ite_beq (c:Prop)[Decidable c](x y tO:Int)(h1:x=tO)(h2:y≠tO):((if c then x else y)==tO)=decide c:=by
 by_cases hc:c
 ·rw[if_pos hc,decide_eq_true hc,h1];simp
 ·rw[if_neg hc,decide_eq_false hc];simp[h2]
section
variable(gl ga ha hs:Nat)(P:Par)(σ:Ar)(sp:List Sp)(w:World)(H:LkAt w gl ga ha hs P σ sp)
include H
theorem goes_in (k:Nat)(hk:k<sp.length)(tO p':Int)(σ':Ar)(sp1 sp2:List Sp)(hk1:k<sp1.length)(hl1:sp1.length=sp.length)(HF:∀W,LkAt W gl ga ha hs P σ sp→Calls Tryz.prog 376 #[.pointer (some ⟨gl,0,none⟩),.pointer (some ⟨hs,k*4,none⟩),.int .i64 ((k:Int)+1)] W fun e w'=>e= .returned (.int .i64 p')∧LkAt w' gl ga ha hs P σ' sp1∧Mod [ga,ha,hs] W w')
 (h2:sp1.set k {sp1[k]with pc:=p'}=sp2):
 Calls Tryz.prog 375 #[.pointer (some ⟨gl,0,none⟩),.int .i64 (k:Int),.int .i64 tO,.func (.func 376) #[.pointer (some ⟨gl,0,none⟩)] #[]] w fun e w'=>e= .returned (.bool (p'==tO))∧LkAt w' gl ga ha hs P σ' sp2∧Mod [ga,ha,hs] w w':=by
 have HS:=Lib.hid (spot_in_lk gl ga ha hs P σ sp w H k hk);have hl32:=H.2.2.1;have e1:IntKind.i64.wrap ((k:Int)+1)=(k:Int)+1:=IntWalk.i64_in _ (by omega)
 have HC:∀W,LkAt W gl ga ha hs P σ' sp1→W.cell? ⟨hs,k*4,none⟩=some (.int .i64 sp1[k].pc)∧W.frozen? ⟨hs,k*4,none⟩=false∧LkAt (W.setCell ⟨hs,k*4,none⟩ (.int .i64 p')) gl ga ha hs P σ' sp2:=
  fun W K=>⟨(K.2.1.cells k hk1).1,(K.2.1.cells k hk1).2.2.2.2 (k*4),by rw[←h2];exact K.spots (K.2.1.setPc k hk1 p') ((Mod.refl [hs] W).setCell (by simp) _) (by rw[List.length_set])⟩
 replace HC:=Lib.hid HC;replace HF:=Lib.hid HF;have HH:=Lib.hid H;generalize sp1[k].pc=xo at*;clear H h2 hl1;by_cases ht:p'=tO
 ·rw[beq_iff_eq.2 ht]
  have e9:=ibeq ht;clear ht;go_enter Tryz.func375,Tryz.ntmps375;go_wp2_with fail;refine(HS.out).mono ?_;rintro e wx ⟨rfl,hwx⟩;obtain rfl:=hwx.symm;go_wp2_with fail;refine(HF.out _ HH.out).mono ?_;rintro e w2 ⟨rfl,hb2,hm2⟩;obtain⟨c0,f0,h3⟩:=HC.out _ hb2;have H3:=Lib.hid h3;have hmm:Mod [ga,ha,hs] w (w2.setCell ⟨hs,k*4,none⟩ (.int .i64 p')):=hm2.setCell (by simp) _;clear hb2 hm2 h3;go_wp2_with fail;go_ret;exact⟨rfl,H3.out,hmm⟩
 ·rw[beq_eq_false_iff_ne.2 ht]
  have e9:=ibeq_no ht;clear ht;go_enter Tryz.func375,Tryz.ntmps375;go_wp2_with fail;refine(HS.out).mono ?_;rintro e wx ⟨rfl,hwx⟩;obtain rfl:=hwx.symm;go_wp2_with fail;refine(HF.out _ HH.out).mono ?_;rintro e w2 ⟨rfl,hb2,hm2⟩;obtain⟨c0,f0,h3⟩:=HC.out _ hb2;have H3:=Lib.hid h3;have hmm:Mod [ga,ha,hs] w (w2.setCell ⟨hs,k*4,none⟩ (.int .i64 p')):=hm2.setCell (by simp) _;clear hb2 hm2 h3;go_wp2_with fail;go_ret;exact⟨rfl,H3.out,hmm⟩
theorem goes_out (k:Nat)(hk:k<sp.length)(tO p':Int)(σ':Ar)(sp1 sp2:List Sp)(hk1:k<sp1.length)(hl1:sp1.length=sp.length)(HF:∀W,LkAt W gl ga ha hs P σ sp→Calls Tryz.prog 377 #[.pointer (some ⟨gl,0,none⟩),.pointer (some ⟨hs,k*4,none⟩),.int .i64 ((k:Int)+1)] W fun e w'=>e= .returned (.int .i64 p')∧LkAt w' gl ga ha hs P σ' sp1∧Mod [ga,ha,hs] W w')
 (h2:sp1.set k {sp1[k]with pc:=p'}=sp2):
 Calls Tryz.prog 375 #[.pointer (some ⟨gl,0,none⟩),.int .i64 (k:Int),.int .i64 tO,.func (.func 377) #[.pointer (some ⟨gl,0,none⟩)] #[]] w fun e w'=>e= .returned (.bool (p'==tO))∧LkAt w' gl ga ha hs P σ' sp2∧Mod [ga,ha,hs] w w':=by
 have HS:=Lib.hid (spot_in_lk gl ga ha hs P σ sp w H k hk);have hl32:=H.2.2.1;have e1:IntKind.i64.wrap ((k:Int)+1)=(k:Int)+1:=IntWalk.i64_in _ (by omega)
 have HC:∀W,LkAt W gl ga ha hs P σ' sp1→W.cell? ⟨hs,k*4,none⟩=some (.int .i64 sp1[k].pc)∧W.frozen? ⟨hs,k*4,none⟩=false∧LkAt (W.setCell ⟨hs,k*4,none⟩ (.int .i64 p')) gl ga ha hs P σ' sp2:=
  fun W K=>⟨(K.2.1.cells k hk1).1,(K.2.1.cells k hk1).2.2.2.2 (k*4),by rw[←h2];exact K.spots (K.2.1.setPc k hk1 p') ((Mod.refl [hs] W).setCell (by simp) _) (by rw[List.length_set])⟩
 replace HC:=Lib.hid HC;replace HF:=Lib.hid HF;have HH:=Lib.hid H;generalize sp1[k].pc=xo at*;clear H h2 hl1;by_cases ht:p'=tO
 ·rw[beq_iff_eq.2 ht]
  have e9:=ibeq ht;clear ht;go_enter Tryz.func375,Tryz.ntmps375;go_wp2_with fail;refine(HS.out).mono ?_;rintro e wx ⟨rfl,hwx⟩;obtain rfl:=hwx.symm;go_wp2_with fail;refine(HF.out _ HH.out).mono ?_;rintro e w2 ⟨rfl,hb2,hm2⟩;obtain⟨c0,f0,h3⟩:=HC.out _ hb2;have H3:=Lib.hid h3;have hmm:Mod [ga,ha,hs] w (w2.setCell ⟨hs,k*4,none⟩ (.int .i64 p')):=hm2.setCell (by simp) _;clear hb2 hm2 h3;go_wp2_with fail;go_ret;exact⟨rfl,H3.out,hmm⟩
 ·rw[beq_eq_false_iff_ne.2 ht]
  have e9:=ibeq_no ht;clear ht;go_enter Tryz.func375,Tryz.ntmps375;go_wp2_with fail;refine(HS.out).mono ?_;rintro e wx ⟨rfl,hwx⟩;obtain rfl:=hwx.symm;go_wp2_with fail;refine(HF.out _ HH.out).mono ?_;rintro e w2 ⟨rfl,hb2,hm2⟩;obtain⟨c0,f0,h3⟩:=HC.out _ hb2;have H3:=Lib.hid h3;have hmm:Mod [ga,ha,hs] w (w2.setCell ⟨hs,k*4,none⟩ (.int .i64 p')):=hm2.setCell (by simp) _;clear hb2 hm2 h3;go_wp2_with fail;go_ret;exact⟨rfl,H3.out,hmm⟩
theorem step_in (k:Nat)(hk:k<sp.length)(p:Int)(hp:sp[k].pc=p)(h1:0<p)(h2:p<10)(σ':Ar)(sp2:List Sp)(b:Bool)(HG:∀W,LkAt W gl ga ha hs P σ sp→Calls Tryz.prog 375 #[.pointer (some ⟨gl,0,none⟩),.int .i64 (k:Int),.int .i64 10,.func (.func 376) #[.pointer (some ⟨gl,0,none⟩)] #[]] W fun e w'=>e= .returned (.bool b)∧LkAt w' gl ga ha hs P σ' sp2∧Mod [ga,ha,hs] W w'):
 Calls Tryz.prog 371 #[.pointer (some ⟨gl,0,none⟩),.int .i64 (k:Int)] w fun e w'=>e= .returned (.bool b)∧LkAt w' gl ga ha hs P σ' sp2∧Mod [ga,ha,hs] w w':=by
 have HSp:=Spot_lk gl ga ha hs P σ sp w H (k:Int);rw[spOf_in hk,hp]at HSp;replace HSp:=Lib.hid HSp;have hmf:∀(fn:Fn) (first cap:Array Value) (w:World),(Instr.makeFunc fn first cap).run Tryz.prog w= .ok (.func fn first cap) w:=fun _ _ _ _=>rfl;have q1:=fun a b c d W=>sfld0 a b c d W;replace HG:=Lib.hid HG;have HH:=Lib.hid H;generalize sp[k].a=xa at*;generalize sp[k].b=xb at*;generalize sp[k].c=xc at*;clear H hp;go_enter Tryz.func371,Tryz.ntmps371;go_wp2_with fail;refine HSp.out.mono ?_;rintro e w1 ⟨rfl,hb1⟩;have H1:=Lib.hid (HH.out.same hb1);have hm1:Mod [ga,ha,hs] w w1:=Mod.of_below hb1;clear hb1;go_wp2_with fail;refine(HG.out _ H1.out).mono ?_;rintro e w2 ⟨rfl,h3,hm2⟩;have H3:=Lib.hid h3;have hmm:=hm1.trans hm2;clear h3 hm2;go_wp2_with fail;go_ret;exact⟨rfl,H3.out,hmm⟩
theorem step_out (k:Nat)(hk:k<sp.length)(p:Int)(hp:sp[k].pc=p)(h1:10<p)(h2:p<100)(σ':Ar)(sp2:List Sp)(b:Bool)(HG:∀W,LkAt W gl ga ha hs P σ sp→Calls Tryz.prog 375 #[.pointer (some ⟨gl,0,none⟩),.int .i64 (k:Int),.int .i64 0,.func (.func 377) #[.pointer (some ⟨gl,0,none⟩)] #[]] W fun e w'=>e= .returned (.bool b)∧LkAt w' gl ga ha hs P σ' sp2∧Mod [ga,ha,hs] W w'):
 Calls Tryz.prog 371 #[.pointer (some ⟨gl,0,none⟩),.int .i64 (k:Int)] w fun e w'=>e= .returned (.bool b)∧LkAt w' gl ga ha hs P σ' sp2∧Mod [ga,ha,hs] w w':=by
 have HSp:=Spot_lk gl ga ha hs P σ sp w H (k:Int);rw[spOf_in hk,hp]at HSp;replace HSp:=Lib.hid HSp;have hmf:∀(fn:Fn) (first cap:Array Value) (w:World),(Instr.makeFunc fn first cap).run Tryz.prog w= .ok (.func fn first cap) w:=fun _ _ _ _=>rfl;have q1:=fun a b c d W=>sfld0 a b c d W;replace HG:=Lib.hid HG;have HH:=Lib.hid H;generalize sp[k].a=xa at*;generalize sp[k].b=xb at*;generalize sp[k].c=xc at*;clear H hp;go_enter Tryz.func371,Tryz.ntmps371;go_wp2_with fail;refine HSp.out.mono ?_;rintro e w1 ⟨rfl,hb1⟩;have H1:=Lib.hid (HH.out.same hb1);have hm1:Mod [ga,ha,hs] w w1:=Mod.of_below hb1;clear hb1;go_wp2_with fail;refine(HG.out _ H1.out).mono ?_;rintro e w2 ⟨rfl,h3,hm2⟩;have H3:=Lib.hid h3;have hmm:=hm1.trans hm2;clear h3 hm2;go_wp2_with fail;go_ret;exact⟨rfl,H3.out,hmm⟩
theorem step_none (i:Int)(h:(spOf sp i).pc=0∨(spOf sp i).pc=10):Calls Tryz.prog 371 #[.pointer (some ⟨gl,0,none⟩),.int .i64 i] w fun e w'=>e= .returned (.bool false)∧LkAt w' gl ga ha hs P σ sp∧Mod [ga,ha,hs] w w':=by
 have HSp:=Spot_lk gl ga ha hs P σ sp w H i;have q1:=fun a b c d W=>sfld0 a b c d W;have HH:=Lib.hid H;generalize spOf sp i=s at*;obtain⟨yp,ya,yb,yc⟩:=s;replace HSp:=Lib.hid HSp;clear H;rcases h with h|h
 ·simp only at h
  subst h;go_enter Tryz.func371,Tryz.ntmps371;go_wp2_with fail;refine HSp.out.mono ?_;rintro e w1 ⟨rfl,hb1⟩;go_wp2_with fail;go_ret;exact⟨rfl,HH.out.same hb1,Mod.of_below hb1⟩
 ·simp only at h
  subst h;go_enter Tryz.func371,Tryz.ntmps371;go_wp2_with fail;refine HSp.out.mono ?_;rintro e w1 ⟨rfl,hb1⟩;go_wp2_with fail;go_ret;exact⟨rfl,HH.out.same hb1,Mod.of_below hb1⟩
theorem step_lk (hN:Num P σ sp)(i:Int):Calls Tryz.prog 371 #[.pointer (some ⟨gl,0,none⟩),.int .i64 i] w fun e w'=>e= .returned (.bool (stepP P σ sp i).1)∧LkAt w' gl ga ha hs P (stepP P σ sp i).2.1 (stepP P σ sp i).2.2∧Mod [ga,ha,hs] w w':=by
 by_cases h:(spOf sp i).pc=0∨(spOf sp i).pc=10
 ·rw[step_no h]
  exact step_none gl ga ha hs P σ sp w H i h
 ·obtain⟨i0,i1⟩:=spOf_range (sp:=sp) (i:=i) (by omega)
  obtain⟨k,rfl⟩:=Int.eq_ofNat_of_zero_le i0;have hk:k<sp.length:=by omega
  have hs1:=spOf_in hk;have hpo:=(hN.2.1 k hk).2;have hka:∀v:Int,k<(sp.set k {sp[k]with a:=v}).length:=fun v=>by rw[List.length_set];exact hk
  have hla:∀v:Int,(sp.set k {sp[k]with a:=v}).length=sp.length:=fun v=>List.length_set;rw[hs1]at h;rcases hpo with p|p|p|p|p|p|p|p|p|p|p
  ·exact absurd (.inl p) h
  ·rw[step_1 (by rw[hs1];exact p),hs1,Int.toNat_natCast]
   exact step_in gl ga ha hs P σ sp w H k hk 1 p (by decide) (by decide) _ _ false (fun W K=>goes_in gl ga ha hs P σ sp W K k hk 10 2 _ sp _ hk rfl (fun W K=>in_one gl ga ha hs P σ sp W K hN k hk p) rfl)
  ·rw[step_2 (by rw[hs1];exact p),hs1,Int.toNat_natCast]
   exact step_in gl ga ha hs P σ sp w H k hk 2 p (by decide) (by decide) _ _ false (fun W K=>goes_in gl ga ha hs P σ sp W K k hk 10 3 _ sp _ hk rfl (fun W K=>in_two gl ga ha hs P σ sp W K hN k hk p) rfl)
  ·rw[step_3 (by rw[hs1];exact p),hs1,Int.toNat_natCast]
   have hb:(σ.get P.tail==0)=((if σ.get P.tail=0 then(10:Int)else 4)==10):=(ite_beq _ _ _ _ rfl (by decide)).symm;rw[hb];exact step_in gl ga ha hs P σ sp w H k hk 3 p (by decide) (by decide) _ _ _ (fun W K=>goes_in gl ga ha hs P σ sp W K k hk 10 _ _ _ _ (hka _) (hla _) (fun W K=>in_three gl ga ha hs P σ sp W K hN k hk p _ rfl) (setaP sp k hk _ _ (hka _)))
  ·rw[step_4 (by rw[hs1];exact p),hs1,Int.toNat_natCast]
   exact step_in gl ga ha hs P σ sp w H k hk 4 p (by decide) (by decide) _ _ false (fun W K=>goes_in gl ga ha hs P σ sp W K k hk 10 5 _ sp _ hk rfl (fun W K=>in_four gl ga ha hs P σ sp W K hN k hk p) rfl)
  ·rw[step_5 (by rw[hs1];exact p),hs1,Int.toNat_natCast]
   have hb:(σ.get (wt P ((k:Int)+1))==0)=((if σ.get (wt P ((k:Int)+1))=0 then(10:Int)else 5)==10):=(ite_beq _ _ _ _ rfl (by decide)).symm;rw[hb];exact step_in gl ga ha hs P σ sp w H k hk 5 p (by decide) (by decide) _ _ _ (fun W K=>goes_in gl ga ha hs P σ sp W K k hk 10 _ _ sp _ hk rfl (fun W K=>in_five gl ga ha hs P σ sp W K hN k hk p) rfl)
  ·exact absurd (.inr p) h
  ·have hs2:=step_look (P:=P) (σ:=σ) (sp:=sp) (i:=(k:Int)) (.inl (by rw[hs1];exact p))
   rw[hs2,hs1,Int.toNat_natCast];simp only[if_pos p];have hb:false=((if σ.get (nx P ((k:Int)+1))=0 then(12:Int)else 14)==0):=by split<;>rfl
   have key:=step_out gl ga ha hs P σ sp w H k hk 11 p (by decide) (by decide) _ _ _ (fun W K=>goes_out gl ga ha hs P σ sp W K k hk 0 _ _ _ _ (hka _) (hla _) (fun W K=>out_11 gl ga ha hs P σ sp W K hN k hk p _ rfl) (setaP sp k hk _ _ (hka _)));rw[←hb]at key;exact key
  ·rw[step_12 (by rw[hs1];exact p),hs1,Int.toNat_natCast]
   generalize hbb:(σ.has P.tail&&(σ.get P.tail==(k:Int)+1))=bb;have hb:bb=((if bb=true then(0:Int)else 13)==0):=by cases bb<;>rfl
   have HO:=fun W K=>out_12 gl ga ha hs P σ sp W K hN k hk p;rw[hbb]at HO;have key:=step_out gl ga ha hs P σ sp w H k hk 12 p (by decide) (by decide) _ _ _ (fun W K=>goes_out gl ga ha hs P σ sp W K k hk 0 _ _ sp _ hk rfl (HO) rfl);rw[←hb]at key;exact key
  ·have hs2:=step_look (P:=P) (σ:=σ) (sp:=sp) (i:=(k:Int)) (.inr (by rw[hs1];exact p))
   rw[hs2,hs1,Int.toNat_natCast];simp only[if_neg (show¬sp[k].pc=11 by omega)];have hb:false=((if σ.get (nx P ((k:Int)+1))=0 then(13:Int)else 14)==0):=by split<;>rfl
   have key:=step_out gl ga ha hs P σ sp w H k hk 13 p (by decide) (by decide) _ _ _ (fun W K=>goes_out gl ga ha hs P σ sp W K k hk 0 _ _ _ _ (hka _) (hla _) (fun W K=>out_13 gl ga ha hs P σ sp W K hN k hk p _ rfl) (setaP sp k hk _ _ (hka _)));rw[←hb]at key;exact key
  ·rw[step_14 (by rw[hs1];exact p),hs1,Int.toNat_natCast]
   exact step_out gl ga ha hs P σ sp w H k hk 14 p (by decide) (by decide) _ _ true (fun W K=>goes_out gl ga ha hs P σ sp W K k hk 0 0 _ sp _ hk rfl (fun W K=>out_14 gl ga ha hs P σ sp W K hN k hk p) rfl)
theorem alone_lk (hN:Num P σ sp)(i:Int):Calls Tryz.prog 366 #[.pointer (some ⟨gl,0,none⟩),.int .i64 i] w fun e w'=>e= .returned (.bool (aloneP P σ sp i).1)∧LkAt w' gl ga ha hs P (aloneP P σ sp i).2 sp∧Mod [ga,ha] w w':=by
 have q1:=fun a b c d W=>sfld0 a b c d W;by_cases hp:(spOf sp i).pc=10
 ·have e:aloneP P σ sp i=(σ.get (nx P (i+1))==0,σ.op 1 (nx P (i+1)) false 0):=by unfold aloneP;rw[if_pos hp]
  rw[e];clear e;obtain⟨i0,i1⟩:=spOf_range (sp:=sp) (i:=i) (by omega);have hl32:=H.2.2.1;have HX:=Lib.hid (fun W (K:LkAt W gl ga ha hs P σ sp)=>next_lk gl ga ha hs P σ sp W K hN.1 (i+1) (by omega));have HSt:=Lib.hid (fun W (K:LkAt W gl ga ha hs P σ sp)=>load_any ga ha σ W K.1 hN.2.2 (nx P (i+1)));obtain⟨d1,d2,d3,d4,d5⟩:=H.2.2.2.2;have HK7:=Lib.hid (H.drewN 1);obtain⟨⟨cc,q0,_,_⟩,_⟩:=H.heads;have HSp:=Spot_lk gl ga ha hs P σ sp (w.drewN 1) HK7.out i;rw[hp]at HSp;replace HSp:=Lib.hid HSp;have e3:IntKind.i64.wrap (i+1)=i+1:=IntWalk.i64_in _ (by omega);generalize spOf sp i=s at*;generalize σ.op 1 (nx P (i+1)) false 0=σ2 at*;generalize nx P (i+1)=p at*;generalize σ.get p=x at*;have hm1:Mod [ga,ha] w (w.drewN 1):=(Mod.refl _ _).drewN 1;clear H hN hp;go_enter Tryz.func366,Tryz.ntmps366;go_wp2_with fail;refine wp_region_held_drew (S:=fun V=>V.cell? ⟨gl,0,none⟩=some (.pointer (some ⟨ga,0,none⟩))) (by kernel_rfl) q0 (fun hHeld=> ?_);refine take_to 0 (some 5) (v:= ?_) rfl rfl (by kernel_rfl) (by kernel_rfl) (by kernel_rfl) (fun _ _ _ h=>h) (Or.inl ⟨by rfl,?_⟩) (by first|trivial|assumption) ?_;rotate_left;focus(intro w hSw;(try dsimp only at hSw);go_simp;(try with_reducible rfl))
  simp only[Act.put,List.setIfInBounds_toArray,List.set_cons_zero,List.set_cons_succ];refine take_to 1 (some 6) (v:= ?_) rfl rfl (by kernel_rfl) (by kernel_rfl) (by kernel_rfl) (fun _ _ _ h=>h) (Or.inl ⟨by rfl,?_⟩) (by first|trivial|assumption) ?_;rotate_left;focus(intro w hSw;(try dsimp only at hSw);go_simp;(try with_reducible rfl))
  simp only[Act.put,List.setIfInBounds_toArray,List.set_cons_zero,List.set_cons_succ];refine wpAnyH_ready (rs:=[2]) (by kernel_rfl) (by simp) ?_;refine AllReadyH.cons rfl (fun K hK=> ?_) AllReadyH.nil;go_simp;refine HSp.out.mono ?_;rintro e w2 ⟨rfl,hb2⟩;have H2:=Lib.hid (HK7.out.same hb2);have hm2:Mod [ga,ha] w w2:=hm1.trans (Mod.of_below hb2);go_simp;refine hK.out _ _ (keep1 hb2 hHeld) (fun hHeld=> ?_);clear hb2;refine take_to 3 (some 8) (v:= ?_) rfl rfl (by kernel_rfl) (by kernel_rfl) (by kernel_rfl) (fun _ _ _ h=>h) (Or.inl ⟨by rfl,?_⟩) (by first|trivial|assumption) ?_;rotate_left;focus(intro w hSw;(try dsimp only at hSw);go_simp;(try with_reducible rfl))
  simp only[Act.put,List.setIfInBounds_toArray,List.set_cons_zero,List.set_cons_succ];refine take_to 4 (some 9) (v:= ?_) rfl rfl (by kernel_rfl) (by kernel_rfl) (by kernel_rfl) (fun _ _ _ h=>h) (Or.inl ⟨by rfl,?_⟩) (by first|trivial|assumption) ?_;rotate_left;focus(intro w hSw;(try dsimp only at hSw);go_simp;(try with_reducible rfl))
  simp only[Act.put,List.setIfInBounds_toArray,List.set_cons_zero,List.set_cons_succ];refine take_to 5 (some 10) (v:= ?_) rfl rfl (by kernel_rfl) (by kernel_rfl) (by kernel_rfl) (fun _ _ _ h=>h) (Or.inl ⟨by rfl,?_⟩) (by first|trivial|assumption) ?_;rotate_left;focus(intro w hSw;(try dsimp only at hSw);go_simp;(try with_reducible rfl))
  simp only[Act.put,List.setIfInBounds_toArray,List.set_cons_zero,List.set_cons_succ];refine take_to 6 (some 11) (v:= ?_) rfl rfl (by kernel_rfl) (by kernel_rfl) (by kernel_rfl) (fun _ _ _ h=>h) (Or.inl ⟨by rfl,?_⟩) (by first|trivial|assumption) ?_;rotate_left;focus(intro w hSw;(try dsimp only at hSw);go_simp;(try with_reducible rfl))
  simp only[Act.put,List.setIfInBounds_toArray,List.set_cons_zero,List.set_cons_succ];refine take_to 7 (some 12) (v:= ?_) rfl rfl (by kernel_rfl) (by kernel_rfl) (by kernel_rfl) (fun _ _ _ h=>h) (Or.inl ⟨by rfl,?_⟩) (by first|trivial|assumption) ?_;rotate_left;focus(intro w hSw;(try dsimp only at hSw);go_simp;(try with_reducible rfl))
  simp only[Act.put,List.setIfInBounds_toArray,List.set_cons_zero,List.set_cons_succ];refine take_to 8 (some 13) (v:= ?_) rfl rfl (by kernel_rfl) (by kernel_rfl) (by kernel_rfl) (fun _ _ _ h=>h) (Or.inl ⟨by rfl,?_⟩) (by first|trivial|assumption) ?_;rotate_left;focus(intro w hSw;(try dsimp only at hSw);go_simp;(try with_reducible rfl))
  simp only[Act.put,List.setIfInBounds_toArray,List.set_cons_zero,List.set_cons_succ];refine take_to 9 (some 14) (v:= ?_) rfl rfl (by kernel_rfl) (by kernel_rfl) (by kernel_rfl) (fun _ _ _ h=>h) (Or.inl ⟨by rfl,?_⟩) (by first|trivial|assumption) ?_;rotate_left;focus(intro w hSw;(try dsimp only at hSw);go_simp;(try with_reducible rfl))
  simp only[Act.put,List.setIfInBounds_toArray,List.set_cons_zero,List.set_cons_succ];refine take_to 10 (some 15) (v:= ?_) rfl rfl (by kernel_rfl) (by kernel_rfl) (by kernel_rfl) (fun _ _ _ h=>h) (Or.inl ⟨by rfl,?_⟩) (by first|trivial|assumption) ?_;rotate_left;focus(intro w hSw;(try dsimp only at hSw);go_simp;(try with_reducible rfl))
  simp only[Act.put,List.setIfInBounds_toArray,List.set_cons_zero,List.set_cons_succ];refine take_to 11 (some 16) (v:= ?_) rfl rfl (by kernel_rfl) (by kernel_rfl) (by kernel_rfl) (fun _ _ _ h=>h) (Or.inl ⟨by rfl,?_⟩) (by first|trivial|assumption) ?_;rotate_left;focus(intro w hSw;(try dsimp only at hSw);go_simp;(try with_reducible rfl))
  simp only[Act.put,List.setIfInBounds_toArray,List.set_cons_zero,List.set_cons_succ];refine take_to 12 (some 17) (v:= ?_) rfl rfl (by kernel_rfl) (by kernel_rfl) (by kernel_rfl) (fun _ _ _ h=>h) (Or.inl ⟨by rfl,?_⟩) (by first|trivial|assumption) ?_;rotate_left;focus(intro w hSw;(try dsimp only at hSw);go_simp;(try with_reducible rfl))
  simp only[Act.put,List.setIfInBounds_toArray,List.set_cons_zero,List.set_cons_succ];refine wpAnyH_ready (rs:=[13]) (by kernel_rfl) (by simp) ?_;refine AllReadyH.cons rfl (fun K hK=> ?_) AllReadyH.nil;go_simp;refine(HX.out _ H2.out).mono ?_;rintro e wx ⟨rfl,hwx⟩;obtain rfl:=hwx.symm;go_simp;refine hK.out _ _ hHeld (fun hHeld=> ?_);refine wpAnyH_ready (rs:=[14]) (by kernel_rfl) (by simp) ?_;refine AllReadyH.cons rfl (fun K hK=> ?_) AllReadyH.nil;go_simp;refine(HSt.out _ H2.out).mono ?_;rintro e w3 ⟨rfl,ha3,hm3⟩;have H3:=Lib.hid (H2.out.arena ha3 hm3);go_simp;refine hK.out _ _ (keepM hm3 hHeld (by simp;omega)) (fun hHeld=> ?_);refine take_to 15 (some 20) (v:= ?_) rfl rfl (by kernel_rfl) (by kernel_rfl) (by kernel_rfl) (fun _ _ _ h=>h) (Or.inl ⟨by rfl,?_⟩) (by first|trivial|assumption) ?_;rotate_left;focus(intro w hSw;(try dsimp only at hSw);go_simp;(try with_reducible rfl))
  simp only[Act.put,List.setIfInBounds_toArray,List.set_cons_zero,List.set_cons_succ];refine take_to 16 (some 21) (v:= ?_) rfl rfl (by kernel_rfl) (by kernel_rfl) (by kernel_rfl) (fun _ _ _ h=>h) (Or.inl ⟨by rfl,?_⟩) (by first|trivial|assumption) ?_;rotate_left;focus(intro w hSw;(try dsimp only at hSw);go_simp;(try with_reducible rfl))
  simp only[Act.put,List.setIfInBounds_toArray,List.set_cons_zero,List.set_cons_succ];refine take_to 17 (some 4) (v:= ?_) rfl rfl (by kernel_rfl) (by kernel_rfl) (by kernel_rfl) (fun _ _ _ h=>h) (Or.inl ⟨by rfl,?_⟩) (by first|trivial|assumption) ?_;rotate_left;focus(intro w hSw;(try dsimp only at hSw);go_simp;(try with_reducible rfl))
  simp only[Act.put,List.setIfInBounds_toArray,List.set_cons_zero,List.set_cons_succ];refine wpAnyH_done (by kernel_rfl) ?_ _;have hm4:=hm2.trans hm3;clear ha3 hm3;go_wp2_with fail;go_ret;exact⟨rfl,H3.out,hm4⟩
 ·have e:aloneP P σ sp i=(false,σ):=by unfold aloneP;rw[if_neg hp]
  rw[e];clear e;have HK7:=Lib.hid (H.drewN 1);have HSp:=Spot_lk gl ga ha hs P σ sp (w.drewN 1) HK7.out i;have hm1:Mod [ga,ha] w (w.drewN 1):=(Mod.refl _ _).drewN 1;have e9:=ibeq_no hp;generalize spOf sp i=s at*;obtain⟨xp,xa,xb,xc⟩:=s;replace HSp:=Lib.hid HSp;clear H hN hp;go_enter Tryz.func366,Tryz.ntmps366;go_wp2_with fail;refine wp_region_held_drew (S:=fun _=>True) (by kernel_rfl) trivial (fun hHeld=> ?_);refine take_to 0 (some 5) (v:= ?_) rfl rfl (by kernel_rfl) (by kernel_rfl) (by kernel_rfl) (fun _ _ _ h=>h) (Or.inl ⟨by rfl,?_⟩) (by first|trivial|assumption) ?_;rotate_left;focus(intro w hSw;(try dsimp only at hSw);go_simp;(try with_reducible rfl))
  simp only[Act.put,List.setIfInBounds_toArray,List.set_cons_zero,List.set_cons_succ];refine take_to 1 (some 6) (v:= ?_) rfl rfl (by kernel_rfl) (by kernel_rfl) (by kernel_rfl) (fun _ _ _ h=>h) (Or.inl ⟨by rfl,?_⟩) (by first|trivial|assumption) ?_;rotate_left;focus(intro w hSw;(try dsimp only at hSw);go_simp;(try with_reducible rfl))
  simp only[Act.put,List.setIfInBounds_toArray,List.set_cons_zero,List.set_cons_succ];refine wpAnyH_ready (rs:=[2]) (by kernel_rfl) (by simp) ?_;refine AllReadyH.cons rfl (fun K hK=> ?_) AllReadyH.nil;go_simp;refine HSp.out.mono ?_;rintro e w2 ⟨rfl,hb2⟩;have H2:=Lib.hid (HK7.out.same hb2);have hm2:Mod [ga,ha] w w2:=hm1.trans (Mod.of_below hb2);go_simp;refine hK.out _ _ trivial (fun hHeld=> ?_);clear hb2;refine take_to 3 (some 8) (v:= ?_) rfl rfl (by kernel_rfl) (by kernel_rfl) (by kernel_rfl) (fun _ _ _ h=>h) (Or.inl ⟨by rfl,?_⟩) (by first|trivial|assumption) ?_;rotate_left;focus(intro w hSw;(try dsimp only at hSw);go_simp;(try with_reducible rfl))
  simp only[Act.put,List.setIfInBounds_toArray,List.set_cons_zero,List.set_cons_succ];refine take_to 4 (some 9) (v:= ?_) rfl rfl (by kernel_rfl) (by kernel_rfl) (by kernel_rfl) (fun _ _ _ h=>h) (Or.inl ⟨by rfl,?_⟩) (by first|trivial|assumption) ?_;rotate_left;focus(intro w hSw;(try dsimp only at hSw);go_simp;(try with_reducible rfl))
  simp only[Act.put,List.setIfInBounds_toArray,List.set_cons_zero,List.set_cons_succ];refine take_to 5 (some 10) (v:= ?_) rfl rfl (by kernel_rfl) (by kernel_rfl) (by kernel_rfl) (fun _ _ _ h=>h) (Or.inl ⟨by rfl,?_⟩) (by first|trivial|assumption) ?_;rotate_left;focus(intro w hSw;(try dsimp only at hSw);go_simp;(try with_reducible rfl))
  simp only[Act.put,List.setIfInBounds_toArray,List.set_cons_zero,List.set_cons_succ];refine take_to 6 (some 11) (v:=undef) rfl rfl (by kernel_rfl) (by kernel_rfl) (by kernel_rfl) (fun _ _ _ h=>h) (Or.inr ⟨by rfl,rfl⟩) (by first|trivial|assumption) ?_;simp only[Act.put,List.setIfInBounds_toArray,List.set_cons_zero,List.set_cons_succ];refine take_to 7 (some 12) (v:=undef) rfl rfl (by kernel_rfl) (by kernel_rfl) (by kernel_rfl) (fun _ _ _ h=>h) (Or.inr ⟨by rfl,rfl⟩) (by first|trivial|assumption) ?_;simp only[Act.put,List.setIfInBounds_toArray,List.set_cons_zero,List.set_cons_succ];refine take_to 8 (some 13) (v:=undef) rfl rfl (by kernel_rfl) (by kernel_rfl) (by kernel_rfl) (fun _ _ _ h=>h) (Or.inr ⟨by rfl,rfl⟩) (by first|trivial|assumption) ?_;simp only[Act.put,List.setIfInBounds_toArray,List.set_cons_zero,List.set_cons_succ];refine take_to 9 (some 14) (v:=undef) rfl rfl (by kernel_rfl) (by kernel_rfl) (by kernel_rfl) (fun _ _ _ h=>h) (Or.inr ⟨by rfl,rfl⟩) (by first|trivial|assumption) ?_;simp only[Act.put,List.setIfInBounds_toArray,List.set_cons_zero,List.set_cons_succ];refine take_to 10 (some 15) (v:=undef) rfl rfl (by kernel_rfl) (by kernel_rfl) (by kernel_rfl) (fun _ _ _ h=>h) (Or.inr ⟨by rfl,rfl⟩) (by first|trivial|assumption) ?_;simp only[Act.put,List.setIfInBounds_toArray,List.set_cons_zero,List.set_cons_succ];refine take_to 11 (some 16) (v:=undef) rfl rfl (by kernel_rfl) (by kernel_rfl) (by kernel_rfl) (fun _ _ _ h=>h) (Or.inr ⟨by rfl,rfl⟩) (by first|trivial|assumption) ?_;simp only[Act.put,List.setIfInBounds_toArray,List.set_cons_zero,List.set_cons_succ];refine take_to 12 (some 17) (v:=undef) rfl rfl (by kernel_rfl) (by kernel_rfl) (by kernel_rfl) (fun _ _ _ h=>h) (Or.inr ⟨by rfl,rfl⟩) (by first|trivial|assumption) ?_;simp only[Act.put,List.setIfInBounds_toArray,List.set_cons_zero,List.set_cons_succ];refine take_to 13 (some 18) (v:=undef) rfl rfl (by kernel_rfl) (by kernel_rfl) (by kernel_rfl) (fun _ _ _ h=>h) (Or.inr ⟨by rfl,rfl⟩) (by first|trivial|assumption) ?_;simp only[Act.put,List.setIfInBounds_toArray,List.set_cons_zero,List.set_cons_succ];refine take_to 14 (some 19) (v:=undef) rfl rfl (by kernel_rfl) (by kernel_rfl) (by kernel_rfl) (fun _ _ _ h=>h) (Or.inr ⟨by rfl,rfl⟩) (by first|trivial|assumption) ?_;simp only[Act.put,List.setIfInBounds_toArray,List.set_cons_zero,List.set_cons_succ];refine take_to 15 (some 20) (v:=undef) rfl rfl (by kernel_rfl) (by kernel_rfl) (by kernel_rfl) (fun _ _ _ h=>h) (Or.inr ⟨by rfl,rfl⟩) (by first|trivial|assumption) ?_;simp only[Act.put,List.setIfInBounds_toArray,List.set_cons_zero,List.set_cons_succ];refine take_to 16 (some 21) (v:= ?_) rfl rfl (by kernel_rfl) (by kernel_rfl) (by kernel_rfl) (fun _ _ _ h=>h) (Or.inl ⟨by rfl,?_⟩) (by first|trivial|assumption) ?_;rotate_left;focus(intro w hSw;(try dsimp only at hSw);go_simp;(try with_reducible rfl))
  simp only[Act.put,List.setIfInBounds_toArray,List.set_cons_zero,List.set_cons_succ];refine take_to 17 (some 4) (v:= ?_) rfl rfl (by kernel_rfl) (by kernel_rfl) (by kernel_rfl) (fun _ _ _ h=>h) (Or.inl ⟨by rfl,?_⟩) (by first|trivial|assumption) ?_;rotate_left;focus(intro w hSw;(try dsimp only at hSw);go_simp;(try with_reducible rfl))
  simp only[Act.put,List.setIfInBounds_toArray,List.set_cons_zero,List.set_cons_succ];refine wpAnyH_done (by kernel_rfl) ?_ _;go_wp2_with fail;go_ret;exact⟨rfl,H2.out,hm2⟩
end
end Go.Proofs.YtfmiioddhpkdkaaGreat.Mc
namespace Go.Proofs.YtfmiioddhpkdkaaGreat.Mc
open Go.RowKit Ara Lok
end Go.Proofs.YtfmiioddhpkdkaaGreat.Mc
