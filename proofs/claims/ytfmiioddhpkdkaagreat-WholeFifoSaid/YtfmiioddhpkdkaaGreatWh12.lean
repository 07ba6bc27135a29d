/- Merged texts: Tk2, Tk3, TkI, TaP, Ta3. -/
import Derived.Test.YtfmiioddhpkdkaaGreatWh11
import Derived.Deep.RegionHeld3
import Derived.RegionTactic
import Derived.BigRegion
set_option linter.unusedVariables false
set_option linter.unusedSimpArgs false
namespace Go.Proofs.YtfmiioddhpkdkaaGreat.Tk
open Go.RowKit Go.Proofs.YtfmiioddhpkdkaaGreat.Ara Go.Proofs.YtfmiioddhpkdkaaGreat.Lok
def Num (P:Par)(σ:Ar)(sp:List Sp):Prop:=(1≤P.next∧P.next≤4096)∧(∀k (h:k<sp.length),0≤sp[k].a∧sp[k].a≤1000000)∧σ.ops≤1000000∧σ.has P.next=true∧0≤σ.get P.next∧σ.get P.next≤1000000
theorem turn_setA (sp:List Sp)(k:Nat)(hk:k<sp.length)(fr tO x:Int)(hp:sp[k].pc=fr):turnS (sp.set k {sp[k]with a:=x}) (k:Int) fr tO=sp.set k {sp[k]with pc:=tO,a:=x}:=by
 have hk2:k<(sp.set k {sp[k]with a:=x}).length:=by rw[List.length_set];exact hk
 have e:(sp.set k {sp[k]with a:=x})[k]={sp[k]with a:=x}:=List.getElem_set_self hk2;rw[turnS_in hk2,e,if_pos hp,List.set_set]
theorem place_eq (P:Par)(t:Int):place P t=P.next+1:=by
 unfold place;have:t%P.parts=0:=by show t%1=0;omega
 omega
section
variable(gl ga ha hs:Nat)(P:Par)(σ:Ar)(sp:List Sp)(w:World)(H:LkAt w gl ga ha hs P σ sp)
include H
section
variable(hN:Num P σ sp)(k:Nat)(hk:k<sp.length)
include hN hk
set_option maxHeartbeats 4000000 in
set_option maxRecDepth 100000 in
theorem step_one (hp:sp[k].pc=1)(sp2 sp3:List Sp)(h2:sp2=sp.set k {sp[k]with a:=σ.get P.next})(h3:turnS sp2 (k:Int) 1 2=sp3∧turnB sp2 (k:Int) 1=true):Calls Tryz.prog 348 #[.pointer (some ⟨gl,0,none⟩),.int .i64 (k:Int)] w fun e w'=>
 e= .returned (.bool false)∧LkAt w' gl ga ha hs P (σ.op 5 P.next true (σ.get P.next+1)) sp3∧Mod [ga,ha,hs] w w':=by
 have HA:=fun W (K:LkAt W gl ga ha hs P σ sp)=>add_any ga ha σ W K.1 hN.2.2.1 P.next 1;have ew:wrap64 (σ.get P.next+1)=σ.get P.next+1:=IntWalk.wrap64_in _ (by have:=hN.2.2.2.2.1;have:=hN.2.2.2.2.2;omega);rw[if_pos hN.2.2.2.1,ew]at HA;replace HA:=Lib.hid HA;have HC:=Lib.hid (fun W σ2 (K:LkAt W gl ga ha hs P σ2 sp)=>show W.cell? ⟨hs,k*4+1,none⟩=some (.int .i64 sp[k].a)∧W.frozen? ⟨hs,k*4+1,none⟩=false∧LkAt (W.setCell ⟨hs,k*4+1,none⟩ (.int .i64 (σ.get P.next))) gl ga ha hs P σ2 sp2 from⟨(K.2.1.cells k hk).2.1,(K.2.1.cells k hk).2.2.2.2 (k*4+1),by rw[h2];exact K.spots (K.2.1.setA k hk (σ.get P.next)) ((Mod.refl [hs] W).setCell (by simp) _) (by rw[List.length_set])⟩);have HT:=fun W σ2 (K:LkAt W gl ga ha hs P σ2 sp2)=>turn_lk gl ga ha hs P σ2 sp2 W K (k:Int) 1 2;rw[h3.1,h3.2]at HT;replace HT:=Lib.hid HT;clear h2 h3 ew;have HS:=Lib.hid (spot_in_lk gl ga ha hs P σ sp w H k hk);have HO:=Lib.hid (fun W=>of_lk gl W);obtain⟨⟨hP1,hP2⟩,hS,ho,hh,g0,g1⟩:=hN;obtain⟨d1,d2,d3,d4,d5⟩:=H.2.2.2.2;obtain⟨⟨cc,q0,q1,q2⟩,hl32⟩:=H.heads;obtain⟨s0,s1,s2,s3,sf⟩:=H.2.1.cells k hk;obtain⟨na0,na1⟩:=hS k hk;rw[hp]at s0;have HH:=Lib.hid H;have HP:=Lib.hid hp;have hm0:Mod [ga,ha,hs] w (w.drewN 1):=(Mod.refl _ _).drewN 1;clear H hS s2 s3 sf;generalize sp[k].a=xa at*;generalize sp[k].pc=xp at*;have e1:IntKind.i64.wrap (σ.get P.next+1-1)=σ.get P.next:=by rw[IntWalk.i64_in _ (by omega)];omega
 have e2:IntKind.i64.wrap (σ.get P.next)=σ.get P.next:=IntWalk.i64_in _ (by omega);generalize σ.get P.next=x at*;generalize σ.op 5 P.next true (x+1)=σ2 at*;clear hp;go_enter Tryz.func348,Tryz.ntmps348;go_wp2_with fail;refine(HO.out _).mono ?_;rintro e wx ⟨rfl,hwx⟩;obtain rfl:=hwx.symm;go_wp2_with fail;refine(HS.out).mono ?_;rintro e wx ⟨rfl,hwx⟩;obtain rfl:=hwx.symm;go_wp2_with fail
 go_region_held3(fun V=>V.cell? ⟨gl,1,none⟩=some (.pointer (some ⟨ga,0,none⟩))∧V.cell? ⟨gl,2,none⟩=some (.int .i64 P.next))
  (first|exact⟨q1,q2⟩|exact k2|exact k3)
  (first
   |(go_at_call 228;refine(HA.out _ (HH.out.drewN 1)).mono ?_;rintro e w2 ⟨rfl,ha2,hm2⟩;have k2:=And.intro (keepM hm2 (show(w.drewN 1).cell? _=_ from q1) (by simp;omega)) (keepM hm2 (show(w.drewN 1).cell? _=_ from q2) (by simp;omega));have H2:=Lib.hid ((HH.out.drewN 1).arena ha2 hm2);have c2:=(HC.out _ _ H2.out).1;have f2:=(HC.out _ _ H2.out).2.1;have k3:=And.intro (((World.cell?_setCell_far w2 ⟨hs,k*4+1,none⟩ ⟨gl,1,none⟩ (.int .i64 x) (by simp;omega))).trans k2.1) (((World.cell?_setCell_far w2 ⟨hs,k*4+1,none⟩ ⟨gl,2,none⟩ (.int .i64 x) (by simp;omega))).trans k2.2)))
 have H3:=Lib.hid (HC.out _ _ H2.out).2.2;have hmm:Mod [ga,ha,hs] w (w2.setCell ⟨hs,k*4+1,none⟩ (.int .i64 x)):=(hm0.trans (hm2.sub (by simp))).setCell (by simp) _;clear k2 k3 ha2 hm2 c2 f2;generalize w2.setCell ⟨hs,k*4+1,none⟩ (.int .i64 x)=w3 at*;go_wp2_with fail;refine(HT.out _ _ H3.out).mono ?_;rintro e w4 ⟨rfl,h4,hm4⟩;have H4:=Lib.hid h4;clear h4;go_wp2_with fail;go_ret;exact⟨rfl,H4.out,hmm.trans (hm4.sub (by simp))⟩
set_option maxHeartbeats 4000000 in
set_option maxRecDepth 100000 in
theorem step_out (hp:sp[k].pc=11)(sp2:List Sp)(h2:turnS sp (k:Int) 11 0=sp2∧turnB sp (k:Int) 11=true):Calls Tryz.prog 348 #[.pointer (some ⟨gl,0,none⟩),.int .i64 (k:Int)] w fun e w'=>
 e= .returned (.bool true)∧LkAt w' gl ga ha hs P (σ.op 2 (P.next+1) true (sp[k].a+1)) sp2∧Mod [ga,ha,hs] w w':=by
 have HSt:=Lib.hid (fun W (K:LkAt W gl ga ha hs P σ sp)=>store_any ga ha σ W K.1 hN.2.2.1 (P.next+1) (sp[k].a+1));have HT:=fun W σ2 (K:LkAt W gl ga ha hs P σ2 sp)=>turn_lk gl ga ha hs P σ2 sp W K (k:Int) 11 0;rw[h2.1,h2.2]at HT;replace HT:=Lib.hid HT;clear h2;have HS:=Lib.hid (spot_in_lk gl ga ha hs P σ sp w H k hk);have HO:=Lib.hid (fun W=>of_lk gl W);obtain⟨⟨hP1,hP2⟩,hS,ho,hh,g0,g1⟩:=hN;obtain⟨d1,d2,d3,d4,d5⟩:=H.2.2.2.2;obtain⟨⟨cc,q0,q1,q2⟩,hl32⟩:=H.heads;obtain⟨s0,s1,s2,s3,sf⟩:=H.2.1.cells k hk;obtain⟨na0,na1⟩:=hS k hk;rw[hp]at s0;have HH:=Lib.hid H;have HP:=Lib.hid hp;have hm0:Mod [ga,ha,hs] w (w.drewN 1):=(Mod.refl _ _).drewN 1;clear H hS s2 s3 sf;have e1:IntKind.i64.wrap (P.next+1)=P.next+1:=IntWalk.i64_in _ (by omega);have e2:IntKind.i64.wrap (sp[k].a+1)=sp[k].a+1:=IntWalk.i64_in _ (by omega);generalize sp[k].a=xa at*;generalize sp[k].pc=xp at*;generalize σ.op 2 (P.next+1) true (xa+1)=σ2 at*;clear hp;go_enter Tryz.func348,Tryz.ntmps348;go_wp2_with fail;refine(HO.out _).mono ?_;rintro e wx ⟨rfl,hwx⟩;obtain rfl:=hwx.symm;go_wp2_with fail;refine(HS.out).mono ?_;rintro e wx ⟨rfl,hwx⟩;obtain rfl:=hwx.symm;go_wp2_with fail
 go_region_held3(fun V=>V.cell? ⟨gl,1,none⟩=some (.pointer (some ⟨ga,0,none⟩))∧V.cell? ⟨gl,2,none⟩=some (.int .i64 P.next)∧V.cell? ⟨hs,k*4+1,none⟩=some (.int .i64 xa))
  (first|exact⟨q1,q2,s1⟩|exact k2)
  (first
   |(go_at_call 109;refine(HSt.out _ (HH.out.drewN 1)).mono ?_;rintro e w2 ⟨rfl,ha2,hm2⟩;have k2:=And.intro (keepM hm2 (show(w.drewN 1).cell? _=_ from q1) (by simp;omega)) (And.intro (keepM hm2 (show(w.drewN 1).cell? _=_ from q2) (by simp;omega)) (keepM hm2 (show(w.drewN 1).cell? _=_ from s1) (by simp;omega)));have H2:=Lib.hid ((HH.out.drewN 1).arena ha2 hm2)))
 have hmm:Mod [ga,ha,hs] w w2:=hm0.trans (hm2.sub (by simp));clear k2 ha2 hm2;go_wp2_with fail;refine(HT.out _ _ H2.out).mono ?_;rintro e w4 ⟨rfl,h4,hm4⟩;have H4:=Lib.hid h4;clear h4;go_wp2_with fail;go_ret;exact⟨rfl,H4.out,hmm.trans (hm4.sub (by simp))⟩
set_option maxHeartbeats 4000000 in
set_option maxRecDepth 100000 in
theorem step_two (hp:sp[k].pc=2)(sp2:List Sp)(h2:sp2=sp.set k {sp[k]with pc:=10})(h3:turnS sp (k:Int) 2 10=sp2∧turnB sp (k:Int) 2=true):Calls Tryz.prog 348 #[.pointer (some ⟨gl,0,none⟩),.int .i64 (k:Int)] w fun e w'=>
 e= .returned (.bool (σ.get (P.next+1)==sp[k].a))∧LkAt w' gl ga ha hs P (σ.op 1 (P.next+1) false 0) (if σ.get (P.next+1)=sp[k].a then sp2 else sp)∧Mod [ga,ha,hs] w w':=by
 have HSt:=Lib.hid (fun W (K:LkAt W gl ga ha hs P σ sp)=>load_any ga ha σ W K.1 hN.2.2.1 (P.next+1));have HT:=fun W σ2 (K:LkAt W gl ga ha hs P σ2 sp)=>turn_lk gl ga ha hs P σ2 sp W K (k:Int) 2 10;rw[h3.1,h3.2]at HT;replace HT:=Lib.hid HT
 have HCc:=Lib.hid (fun W σ2 (K:LkAt W gl ga ha hs P σ2 sp2)=>show W.cell? ⟨hs,k*4+1,none⟩=some (.int .i64 sp[k].a) by
  rw[h2]at K;have:=(K.2.1.cells k (by rw[List.length_set];exact hk)).2.1;rw[List.getElem_set_self]at this;exact this)
 clear h2 h3;by_cases hx:σ.get (P.next+1)=sp[k].a
 ·rw[if_pos hx,beq_iff_eq.2 hx]
  have e9:=ibeq hx;clear hx;have HS:=Lib.hid (spot_in_lk gl ga ha hs P σ sp w H k hk);have HO:=Lib.hid (fun W=>of_lk gl W);obtain⟨⟨hP1,hP2⟩,hS,ho,hh,g0,g1⟩:=hN;obtain⟨d1,d2,d3,d4,d5⟩:=H.2.2.2.2;obtain⟨⟨cc,q0,q1,q2⟩,hl32⟩:=H.heads;obtain⟨s0,s1,s2,s3,sf⟩:=H.2.1.cells k hk;obtain⟨na0,na1⟩:=hS k hk;rw[hp]at s0;have HH:=Lib.hid H;have HP:=Lib.hid hp;have hm0:Mod [ga,ha,hs] w (w.drewN 1):=(Mod.refl _ _).drewN 1;clear H hS s2 s3 sf;have e1:IntKind.i64.wrap (P.next+1)=P.next+1:=IntWalk.i64_in _ (by omega);have HC:=Lib.hid (fun W σ2 (K:LkAt W gl ga ha hs P σ2 sp2)=>(HCc.out _ _ K));generalize sp[k].a=xa at*;generalize sp[k].pc=xp at*;generalize σ.op 1 (P.next+1) false 0=σ2 at*;generalize σ.get (P.next+1)=x at*;clear hp;go_enter Tryz.func348,Tryz.ntmps348;go_wp2_with fail;refine(HO.out _).mono ?_;rintro e wx ⟨rfl,hwx⟩;obtain rfl:=hwx.symm;go_wp2_with fail;refine(HS.out).mono ?_;rintro e wx ⟨rfl,hwx⟩;obtain rfl:=hwx.symm;go_wp2_with fail;refine wp_region_held_drew (S:=fun V=>V.cell? ⟨gl,1,none⟩=some (.pointer (some ⟨ga,0,none⟩))∧V.cell? ⟨gl,2,none⟩=some (.int .i64 P.next)∧V.cell? ⟨hs,k*4+1,none⟩=some (.int .i64 xa)) (by kernel_rfl) ⟨q1,q2,s1⟩ (fun hHeld=> ?_);refine take_to 0 (some 39) (v:= ?_) rfl rfl (by kernel_rfl) (by kernel_rfl) (by kernel_rfl) (fun _ _ _ h=>h) (Or.inl ⟨by rfl,?_⟩) (by first|trivial|assumption) ?_;rotate_left;focus(intro w hSw;(try dsimp only at hSw);go_simp;(try with_reducible rfl))
  simp only[Act.put,List.setIfInBounds_toArray,List.set_cons_zero,List.set_cons_succ];refine take_to 1 (some 40) (v:= ?_) rfl rfl (by kernel_rfl) (by kernel_rfl) (by kernel_rfl) (fun _ _ _ h=>h) (Or.inl ⟨by rfl,?_⟩) (by first|trivial|assumption) ?_;rotate_left;focus(intro w hSw;(try dsimp only at hSw);go_simp;(try with_reducible rfl))
  simp only[Act.put,List.setIfInBounds_toArray,List.set_cons_zero,List.set_cons_succ];refine take_to 2 (some 41) (v:= ?_) rfl rfl (by kernel_rfl) (by kernel_rfl) (by kernel_rfl) (fun _ _ _ h=>h) (Or.inl ⟨by rfl,?_⟩) (by first|trivial|assumption) ?_;rotate_left;focus(intro w hSw;(try dsimp only at hSw);go_simp;(try with_reducible rfl))
  simp only[Act.put,List.setIfInBounds_toArray,List.set_cons_zero,List.set_cons_succ];refine take_to 3 (some 42) (v:= ?_) rfl rfl (by kernel_rfl) (by kernel_rfl) (by kernel_rfl) (fun _ _ _ h=>h) (Or.inl ⟨by rfl,?_⟩) (by first|trivial|assumption) ?_;rotate_left;focus(intro w hSw;(try dsimp only at hSw);go_simp;(try with_reducible rfl))
  simp only[Act.put,List.setIfInBounds_toArray,List.set_cons_zero,List.set_cons_succ];refine take_to 4 (some 43) (v:= ?_) rfl rfl (by kernel_rfl) (by kernel_rfl) (by kernel_rfl) (fun _ _ _ h=>h) (Or.inl ⟨by rfl,?_⟩) (by first|trivial|assumption) ?_;rotate_left;focus(intro w hSw;(try dsimp only at hSw);go_simp;(try with_reducible rfl))
  simp only[Act.put,List.setIfInBounds_toArray,List.set_cons_zero,List.set_cons_succ];refine take_to 5 (some 44) (v:= ?_) rfl rfl (by kernel_rfl) (by kernel_rfl) (by kernel_rfl) (fun _ _ _ h=>h) (Or.inl ⟨by rfl,?_⟩) (by first|trivial|assumption) ?_;rotate_left;focus(intro w hSw;(try dsimp only at hSw);go_simp;(try with_reducible rfl))
  simp only[Act.put,List.setIfInBounds_toArray,List.set_cons_zero,List.set_cons_succ];refine take_to 6 (some 45) (v:= ?_) rfl rfl (by kernel_rfl) (by kernel_rfl) (by kernel_rfl) (fun _ _ _ h=>h) (Or.inl ⟨by rfl,?_⟩) (by first|trivial|assumption) ?_;rotate_left;focus(intro w hSw;(try dsimp only at hSw);go_simp;(try with_reducible rfl))
  simp only[Act.put,List.setIfInBounds_toArray,List.set_cons_zero,List.set_cons_succ];refine take_to 7 (some 46) (v:= ?_) rfl rfl (by kernel_rfl) (by kernel_rfl) (by kernel_rfl) (fun _ _ _ h=>h) (Or.inl ⟨by rfl,?_⟩) (by first|trivial|assumption) ?_;rotate_left;focus(intro w hSw;(try dsimp only at hSw);go_simp;(try with_reducible rfl))
  simp only[Act.put,List.setIfInBounds_toArray,List.set_cons_zero,List.set_cons_succ];refine take_to 8 (some 47) (v:= ?_) rfl rfl (by kernel_rfl) (by kernel_rfl) (by kernel_rfl) (fun _ _ _ h=>h) (Or.inl ⟨by rfl,?_⟩) (by first|trivial|assumption) ?_;rotate_left;focus(intro w hSw;(try dsimp only at hSw);go_simp;(try with_reducible rfl))
  simp only[Act.put,List.setIfInBounds_toArray,List.set_cons_zero,List.set_cons_succ];refine take_to 10 (some 49) (v:= ?_) rfl rfl (by kernel_rfl) (by kernel_rfl) (by kernel_rfl) (fun _ _ _ h=>h) (Or.inl ⟨by rfl,?_⟩) (by first|trivial|assumption) ?_;rotate_left;focus(intro w hSw;(try dsimp only at hSw);go_simp;(try with_reducible rfl))
  simp only[Act.put,List.setIfInBounds_toArray,List.set_cons_zero,List.set_cons_succ];refine take_to 11 (some 50) (v:= ?_) rfl rfl (by kernel_rfl) (by kernel_rfl) (by kernel_rfl) (fun _ _ _ h=>h) (Or.inl ⟨by rfl,?_⟩) (by first|trivial|assumption) ?_;rotate_left;focus(intro w hSw;(try dsimp only at hSw);go_simp;(try with_reducible rfl))
  simp only[Act.put,List.setIfInBounds_toArray,List.set_cons_zero,List.set_cons_succ];refine take_to 12 (some 51) (v:= ?_) rfl rfl (by kernel_rfl) (by kernel_rfl) (by kernel_rfl) (fun _ _ _ h=>h) (Or.inl ⟨by rfl,?_⟩) (by first|trivial|assumption) ?_;rotate_left;focus(intro w hSw;(try dsimp only at hSw);go_simp;(try with_reducible rfl))
  simp only[Act.put,List.setIfInBounds_toArray,List.set_cons_zero,List.set_cons_succ];refine take_to 13 (some 52) (v:= ?_) rfl rfl (by kernel_rfl) (by kernel_rfl) (by kernel_rfl) (fun _ _ _ h=>h) (Or.inl ⟨by rfl,?_⟩) (by first|trivial|assumption) ?_;rotate_left;focus(intro w hSw;(try dsimp only at hSw);go_simp;(try with_reducible rfl))
  simp only[Act.put,List.setIfInBounds_toArray,List.set_cons_zero,List.set_cons_succ];refine wpAnyH_ready (rs:=[9]) (by kernel_rfl) (by simp) ?_;refine AllReadyH.cons rfl (fun K hK=> ?_) AllReadyH.nil;go_simp;refine(HSt.out _ (HH.out.drewN 1)).mono ?_;rintro e w2 ⟨rfl,ha2,hm2⟩;have k2:=And.intro (keepM hm2 (show(w.drewN 1).cell? _=_ from q1) (by simp;omega)) (And.intro (keepM hm2 (show(w.drewN 1).cell? _=_ from q2) (by simp;omega)) (keepM hm2 (show(w.drewN 1).cell? _=_ from s1) (by simp;omega)));have H2:=Lib.hid ((HH.out.drewN 1).arena ha2 hm2);have hmm:Mod [ga,ha,hs] w w2:=hm0.trans (hm2.sub (by simp));go_simp;refine hK.out _ _ k2 (fun hHeld=> ?_);refine take_to 14 (some 53) (v:= ?_) rfl rfl (by kernel_rfl) (by kernel_rfl) (by kernel_rfl) (fun _ _ _ h=>h) (Or.inl ⟨by rfl,?_⟩) (by first|trivial|assumption) ?_;rotate_left;focus(intro w hSw;(try dsimp only at hSw);go_simp;(try with_reducible rfl))
  simp only[Act.put,List.setIfInBounds_toArray,List.set_cons_zero,List.set_cons_succ];refine take_to 15 (some 54) (v:= ?_) rfl rfl (by kernel_rfl) (by kernel_rfl) (by kernel_rfl) (fun _ _ _ h=>h) (Or.inl ⟨by rfl,?_⟩) (by first|trivial|assumption) ?_;rotate_left;focus(intro w hSw;(try dsimp only at hSw);go_simp;(try with_reducible rfl))
  simp only[Act.put,List.setIfInBounds_toArray,List.set_cons_zero,List.set_cons_succ];refine take_to 16 (some 55) (v:= ?_) rfl rfl (by kernel_rfl) (by kernel_rfl) (by kernel_rfl) (fun _ _ _ h=>h) (Or.inl ⟨by rfl,?_⟩) (by first|trivial|assumption) ?_;rotate_left;focus(intro w hSw;(try dsimp only at hSw);go_simp;(try with_reducible rfl))
  simp only[Act.put,List.setIfInBounds_toArray,List.set_cons_zero,List.set_cons_succ];refine take_to 17 (some 56) (v:= ?_) rfl rfl (by kernel_rfl) (by kernel_rfl) (by kernel_rfl) (fun _ _ _ h=>h) (Or.inl ⟨by rfl,?_⟩) (by first|trivial|assumption) ?_;rotate_left;focus(intro w hSw;(try dsimp only at hSw);go_simp;(try with_reducible rfl))
  simp only[Act.put,List.setIfInBounds_toArray,List.set_cons_zero,List.set_cons_succ];refine take_to 18 (some 57) (v:= ?_) rfl rfl (by kernel_rfl) (by kernel_rfl) (by kernel_rfl) (fun _ _ _ h=>h) (Or.inl ⟨by rfl,?_⟩) (by first|trivial|assumption) ?_;rotate_left;focus(intro w hSw;(try dsimp only at hSw);go_simp;(try with_reducible rfl))
  simp only[Act.put,List.setIfInBounds_toArray,List.set_cons_zero,List.set_cons_succ];refine take_to 19 (some 58) (v:= ?_) rfl rfl (by kernel_rfl) (by kernel_rfl) (by kernel_rfl) (fun _ _ _ h=>h) (Or.inl ⟨by rfl,?_⟩) (by first|trivial|assumption) ?_;rotate_left;focus(intro w hSw;(try dsimp only at hSw);go_simp;(try with_reducible rfl))
  simp only[Act.put,List.setIfInBounds_toArray,List.set_cons_zero,List.set_cons_succ];refine wpAnyH_ready (rs:=[20]) (by kernel_rfl) (by simp) ?_;refine AllReadyH.cons rfl (fun K hK=> ?_) AllReadyH.nil;go_simp;refine(HT.out _ _ H2.out).mono ?_;rintro e w3 ⟨rfl,h3,hm3⟩;have H3:=Lib.hid h3;have k3:=And.intro (keepM hm3 k2.1 (by simp;omega)) (And.intro (keepM hm3 k2.2.1 (by simp;omega)) (HC.out _ _ h3));go_simp;refine hK.out _ _ k3 (fun hHeld=> ?_);refine take_to 21 (some 60) (v:= ?_) rfl rfl (by kernel_rfl) (by kernel_rfl) (by kernel_rfl) (fun _ _ _ h=>h) (Or.inl ⟨by rfl,?_⟩) (by first|trivial|assumption) ?_;rotate_left;focus(intro w hSw;(try dsimp only at hSw);go_simp;(try with_reducible rfl))
  simp only[Act.put,List.setIfInBounds_toArray,List.set_cons_zero,List.set_cons_succ];refine take_to 22 (some 4) (v:= ?_) rfl rfl (by kernel_rfl) (by kernel_rfl) (by kernel_rfl) (fun _ _ _ h=>h) (Or.inl ⟨by rfl,?_⟩) (by first|trivial|assumption) ?_;rotate_left;focus(intro w hSw;(try dsimp only at hSw);go_simp;(try with_reducible rfl))
  simp only[Act.put,List.setIfInBounds_toArray,List.set_cons_zero,List.set_cons_succ];refine wpAnyH_done (by kernel_rfl) ?_ _;go_wp2_with fail;go_ret;exact⟨rfl,H3.out,hmm.trans (hm3.sub (by simp))⟩
 ·rw[if_neg hx,beq_eq_false_iff_ne.2 hx]
  have e9:=ibeq_no hx;clear hx;have HS:=Lib.hid (spot_in_lk gl ga ha hs P σ sp w H k hk);have HO:=Lib.hid (fun W=>of_lk gl W);obtain⟨⟨hP1,hP2⟩,hS,ho,hh,g0,g1⟩:=hN;obtain⟨d1,d2,d3,d4,d5⟩:=H.2.2.2.2;obtain⟨⟨cc,q0,q1,q2⟩,hl32⟩:=H.heads;obtain⟨s0,s1,s2,s3,sf⟩:=H.2.1.cells k hk;obtain⟨na0,na1⟩:=hS k hk;rw[hp]at s0;have HH:=Lib.hid H;have HP:=Lib.hid hp;have hm0:Mod [ga,ha,hs] w (w.drewN 1):=(Mod.refl _ _).drewN 1;clear H hS s2 s3 sf;have e1:IntKind.i64.wrap (P.next+1)=P.next+1:=IntWalk.i64_in _ (by omega);have HC:=Lib.hid (fun W σ2 (K:LkAt W gl ga ha hs P σ2 sp2)=>(HCc.out _ _ K));generalize sp[k].a=xa at*;generalize sp[k].pc=xp at*;generalize σ.op 1 (P.next+1) false 0=σ2 at*;generalize σ.get (P.next+1)=x at*;clear hp;go_enter Tryz.func348,Tryz.ntmps348;go_wp2_with fail;refine(HO.out _).mono ?_;rintro e wx ⟨rfl,hwx⟩;obtain rfl:=hwx.symm;go_wp2_with fail;refine(HS.out).mono ?_;rintro e wx ⟨rfl,hwx⟩;obtain rfl:=hwx.symm;go_wp2_with fail;refine wp_region_held_drew (S:=fun V=>V.cell? ⟨gl,1,none⟩=some (.pointer (some ⟨ga,0,none⟩))∧V.cell? ⟨gl,2,none⟩=some (.int .i64 P.next)∧V.cell? ⟨hs,k*4+1,none⟩=some (.int .i64 xa)) (by kernel_rfl) ⟨q1,q2,s1⟩ (fun hHeld=> ?_);refine take_to 0 (some 39) (v:= ?_) rfl rfl (by kernel_rfl) (by kernel_rfl) (by kernel_rfl) (fun _ _ _ h=>h) (Or.inl ⟨by rfl,?_⟩) (by first|trivial|assumption) ?_;rotate_left;focus(intro w hSw;(try dsimp only at hSw);go_simp;(try with_reducible rfl))
  simp only[Act.put,List.setIfInBounds_toArray,List.set_cons_zero,List.set_cons_succ];refine take_to 1 (some 40) (v:= ?_) rfl rfl (by kernel_rfl) (by kernel_rfl) (by kernel_rfl) (fun _ _ _ h=>h) (Or.inl ⟨by rfl,?_⟩) (by first|trivial|assumption) ?_;rotate_left;focus(intro w hSw;(try dsimp only at hSw);go_simp;(try with_reducible rfl))
  simp only[Act.put,List.setIfInBounds_toArray,List.set_cons_zero,List.set_cons_succ];refine take_to 2 (some 41) (v:= ?_) rfl rfl (by kernel_rfl) (by kernel_rfl) (by kernel_rfl) (fun _ _ _ h=>h) (Or.inl ⟨by rfl,?_⟩) (by first|trivial|assumption) ?_;rotate_left;focus(intro w hSw;(try dsimp only at hSw);go_simp;(try with_reducible rfl))
  simp only[Act.put,List.setIfInBounds_toArray,List.set_cons_zero,List.set_cons_succ];refine take_to 3 (some 42) (v:= ?_) rfl rfl (by kernel_rfl) (by kernel_rfl) (by kernel_rfl) (fun _ _ _ h=>h) (Or.inl ⟨by rfl,?_⟩) (by first|trivial|assumption) ?_;rotate_left;focus(intro w hSw;(try dsimp only at hSw);go_simp;(try with_reducible rfl))
  simp only[Act.put,List.setIfInBounds_toArray,List.set_cons_zero,List.set_cons_succ];refine take_to 4 (some 43) (v:= ?_) rfl rfl (by kernel_rfl) (by kernel_rfl) (by kernel_rfl) (fun _ _ _ h=>h) (Or.inl ⟨by rfl,?_⟩) (by first|trivial|assumption) ?_;rotate_left;focus(intro w hSw;(try dsimp only at hSw);go_simp;(try with_reducible rfl))
  simp only[Act.put,List.setIfInBounds_toArray,List.set_cons_zero,List.set_cons_succ];refine take_to 5 (some 44) (v:= ?_) rfl rfl (by kernel_rfl) (by kernel_rfl) (by kernel_rfl) (fun _ _ _ h=>h) (Or.inl ⟨by rfl,?_⟩) (by first|trivial|assumption) ?_;rotate_left;focus(intro w hSw;(try dsimp only at hSw);go_simp;(try with_reducible rfl))
  simp only[Act.put,List.setIfInBounds_toArray,List.set_cons_zero,List.set_cons_succ];refine take_to 6 (some 45) (v:= ?_) rfl rfl (by kernel_rfl) (by kernel_rfl) (by kernel_rfl) (fun _ _ _ h=>h) (Or.inl ⟨by rfl,?_⟩) (by first|trivial|assumption) ?_;rotate_left;focus(intro w hSw;(try dsimp only at hSw);go_simp;(try with_reducible rfl))
  simp only[Act.put,List.setIfInBounds_toArray,List.set_cons_zero,List.set_cons_succ];refine take_to 7 (some 46) (v:= ?_) rfl rfl (by kernel_rfl) (by kernel_rfl) (by kernel_rfl) (fun _ _ _ h=>h) (Or.inl ⟨by rfl,?_⟩) (by first|trivial|assumption) ?_;rotate_left;focus(intro w hSw;(try dsimp only at hSw);go_simp;(try with_reducible rfl))
  simp only[Act.put,List.setIfInBounds_toArray,List.set_cons_zero,List.set_cons_succ];refine take_to 8 (some 47) (v:= ?_) rfl rfl (by kernel_rfl) (by kernel_rfl) (by kernel_rfl) (fun _ _ _ h=>h) (Or.inl ⟨by rfl,?_⟩) (by first|trivial|assumption) ?_;rotate_left;focus(intro w hSw;(try dsimp only at hSw);go_simp;(try with_reducible rfl))
  simp only[Act.put,List.setIfInBounds_toArray,List.set_cons_zero,List.set_cons_succ];refine take_to 10 (some 49) (v:= ?_) rfl rfl (by kernel_rfl) (by kernel_rfl) (by kernel_rfl) (fun _ _ _ h=>h) (Or.inl ⟨by rfl,?_⟩) (by first|trivial|assumption) ?_;rotate_left;focus(intro w hSw;(try dsimp only at hSw);go_simp;(try with_reducible rfl))
  simp only[Act.put,List.setIfInBounds_toArray,List.set_cons_zero,List.set_cons_succ];refine take_to 11 (some 50) (v:= ?_) rfl rfl (by kernel_rfl) (by kernel_rfl) (by kernel_rfl) (fun _ _ _ h=>h) (Or.inl ⟨by rfl,?_⟩) (by first|trivial|assumption) ?_;rotate_left;focus(intro w hSw;(try dsimp only at hSw);go_simp;(try with_reducible rfl))
  simp only[Act.put,List.setIfInBounds_toArray,List.set_cons_zero,List.set_cons_succ];refine take_to 12 (some 51) (v:= ?_) rfl rfl (by kernel_rfl) (by kernel_rfl) (by kernel_rfl) (fun _ _ _ h=>h) (Or.inl ⟨by rfl,?_⟩) (by first|trivial|assumption) ?_;rotate_left;focus(intro w hSw;(try dsimp only at hSw);go_simp;(try with_reducible rfl))
  simp only[Act.put,List.setIfInBounds_toArray,List.set_cons_zero,List.set_cons_succ];refine take_to 13 (some 52) (v:= ?_) rfl rfl (by kernel_rfl) (by kernel_rfl) (by kernel_rfl) (fun _ _ _ h=>h) (Or.inl ⟨by rfl,?_⟩) (by first|trivial|assumption) ?_;rotate_left;focus(intro w hSw;(try dsimp only at hSw);go_simp;(try with_reducible rfl))
  simp only[Act.put,List.setIfInBounds_toArray,List.set_cons_zero,List.set_cons_succ];refine wpAnyH_ready (rs:=[9]) (by kernel_rfl) (by simp) ?_;refine AllReadyH.cons rfl (fun K hK=> ?_) AllReadyH.nil;go_simp;refine(HSt.out _ (HH.out.drewN 1)).mono ?_;rintro e w2 ⟨rfl,ha2,hm2⟩;have k2:=And.intro (keepM hm2 (show(w.drewN 1).cell? _=_ from q1) (by simp;omega)) (And.intro (keepM hm2 (show(w.drewN 1).cell? _=_ from q2) (by simp;omega)) (keepM hm2 (show(w.drewN 1).cell? _=_ from s1) (by simp;omega)));have H2:=Lib.hid ((HH.out.drewN 1).arena ha2 hm2);have hmm:Mod [ga,ha,hs] w w2:=hm0.trans (hm2.sub (by simp));go_simp;refine hK.out _ _ k2 (fun hHeld=> ?_);refine take_to 14 (some 53) (v:= ?_) rfl rfl (by kernel_rfl) (by kernel_rfl) (by kernel_rfl) (fun _ _ _ h=>h) (Or.inl ⟨by rfl,?_⟩) (by first|trivial|assumption) ?_;rotate_left;focus(intro w hSw;(try dsimp only at hSw);go_simp;(try with_reducible rfl))
  simp only[Act.put,List.setIfInBounds_toArray,List.set_cons_zero,List.set_cons_succ];refine take_to 15 (some 54) (v:= ?_) rfl rfl (by kernel_rfl) (by kernel_rfl) (by kernel_rfl) (fun _ _ _ h=>h) (Or.inl ⟨by rfl,?_⟩) (by first|trivial|assumption) ?_;rotate_left;focus(intro w hSw;(try dsimp only at hSw);go_simp;(try with_reducible rfl))
  simp only[Act.put,List.setIfInBounds_toArray,List.set_cons_zero,List.set_cons_succ];refine take_to 16 (some 55) (v:=undef) rfl rfl (by kernel_rfl) (by kernel_rfl) (by kernel_rfl) (fun _ _ _ h=>h) (Or.inr ⟨by rfl,rfl⟩) (by first|trivial|assumption) ?_;simp only[Act.put,List.setIfInBounds_toArray,List.set_cons_zero,List.set_cons_succ];refine take_to 17 (some 56) (v:=undef) rfl rfl (by kernel_rfl) (by kernel_rfl) (by kernel_rfl) (fun _ _ _ h=>h) (Or.inr ⟨by rfl,rfl⟩) (by first|trivial|assumption) ?_;simp only[Act.put,List.setIfInBounds_toArray,List.set_cons_zero,List.set_cons_succ];refine take_to 18 (some 57) (v:=undef) rfl rfl (by kernel_rfl) (by kernel_rfl) (by kernel_rfl) (fun _ _ _ h=>h) (Or.inr ⟨by rfl,rfl⟩) (by first|trivial|assumption) ?_;simp only[Act.put,List.setIfInBounds_toArray,List.set_cons_zero,List.set_cons_succ];refine take_to 19 (some 58) (v:=undef) rfl rfl (by kernel_rfl) (by kernel_rfl) (by kernel_rfl) (fun _ _ _ h=>h) (Or.inr ⟨by rfl,rfl⟩) (by first|trivial|assumption) ?_;simp only[Act.put,List.setIfInBounds_toArray,List.set_cons_zero,List.set_cons_succ];refine take_to 20 (some 59) (v:=undef) rfl rfl (by kernel_rfl) (by kernel_rfl) (by kernel_rfl) (fun _ _ _ h=>h) (Or.inr ⟨by rfl,rfl⟩) (by first|trivial|assumption) ?_;simp only[Act.put,List.setIfInBounds_toArray,List.set_cons_zero,List.set_cons_succ];refine take_to 21 (some 60) (v:= ?_) rfl rfl (by kernel_rfl) (by kernel_rfl) (by kernel_rfl) (fun _ _ _ h=>h) (Or.inl ⟨by rfl,?_⟩) (by first|trivial|assumption) ?_;rotate_left;focus(intro w hSw;(try dsimp only at hSw);go_simp;(try with_reducible rfl))
  simp only[Act.put,List.setIfInBounds_toArray,List.set_cons_zero,List.set_cons_succ];refine take_to 22 (some 4) (v:= ?_) rfl rfl (by kernel_rfl) (by kernel_rfl) (by kernel_rfl) (fun _ _ _ h=>h) (Or.inl ⟨by rfl,?_⟩) (by first|trivial|assumption) ?_;rotate_left;focus(intro w hSw;(try dsimp only at hSw);go_simp;(try with_reducible rfl))
  simp only[Act.put,List.setIfInBounds_toArray,List.set_cons_zero,List.set_cons_succ];refine wpAnyH_done (by kernel_rfl) ?_ _;go_wp2_with fail;go_ret;exact⟨rfl,H2.out,hmm⟩
end
end
end Go.Proofs.YtfmiioddhpkdkaaGreat.Tk
namespace Go.Proofs.YtfmiioddhpkdkaaGreat.Tk
open Go.RowKit Go.Proofs.YtfmiioddhpkdkaaGreat.Ara Go.Proofs.YtfmiioddhpkdkaaGreat.Lok
section
variable(gl ga ha hs:Nat)(P:Par)(σ:Ar)(sp:List Sp)(w:World)(H:LkAt w gl ga ha hs P σ sp)
include H
set_option maxRecDepth 100000 in
theorem step_none (i:Int)(h:¬((spOf sp i).pc=1∨(spOf sp i).pc=2∨(spOf sp i).pc=11)):Calls Tryz.prog 348 #[.pointer (some ⟨gl,0,none⟩),.int .i64 i] w fun e w'=>e= .returned (.bool false)∧LkAt w' gl ga ha hs P σ sp∧Mod [ga,ha,hs] w w':=by
 have HO:=Lib.hid (fun W=>of_lk gl W);have HH:=Lib.hid H;by_cases hi:i<0∨(sp.length:Int)≤i
 ·have HS:=Lib.hid (spot_out_lk gl ga ha hs P σ sp w H i hi)
  clear H hi h;go_enter Tryz.func348,Tryz.ntmps348;go_wp2_with fail;refine(HO.out _).mono ?_;rintro e wx ⟨rfl,hwx⟩;obtain rfl:=hwx.symm;go_wp2_with fail;refine(HS.out).mono ?_;rintro e wx ⟨rfl,hwx⟩;obtain rfl:=hwx.symm;go_wp2_with fail;go_ret;exact⟨rfl,HH.out,Mod.refl _ _⟩
 ·obtain⟨k,rfl⟩:=Int.eq_ofNat_of_zero_le (show 0≤i by omega)
  have hk:k<sp.length:=by omega
  have HS:=Lib.hid (spot_in_lk gl ga ha hs P σ sp w H k hk);have c0:=(H.2.1.cells k hk).1;rw[spOf_in hk]at h;have e1:=ibeq_no (show¬sp[k].pc=1 by omega);have e2:=ibeq_no (show¬sp[k].pc=2 by omega);have e3:=ibeq_no (show¬sp[k].pc=11 by omega);generalize sp[k].pc=x at*;clear H hi h hk;go_enter Tryz.func348,Tryz.ntmps348;go_wp2_with fail;refine(HO.out _).mono ?_;rintro e wx ⟨rfl,hwx⟩;obtain rfl:=hwx.symm;go_wp2_with fail;refine(HS.out).mono ?_;rintro e wx ⟨rfl,hwx⟩;obtain rfl:=hwx.symm;go_wp2_with fail;go_ret;exact⟨rfl,HH.out,Mod.refl _ _⟩
theorem step_lk (hN:Num P σ sp)(i:Int):Calls Tryz.prog 348 #[.pointer (some ⟨gl,0,none⟩),.int .i64 i] w fun e w'=>e= .returned (.bool (stepP P σ sp i).1)∧LkAt w' gl ga ha hs P (stepP P σ sp i).2.1 (stepP P σ sp i).2.2∧Mod [ga,ha,hs] w w':=by
 by_cases h:(spOf sp i).pc=1∨(spOf sp i).pc=2∨(spOf sp i).pc=11
 ·obtain⟨i0,i1⟩:=spOf_range (sp:=sp) (i:=i) (by omega)
  obtain⟨k,rfl⟩:=Int.eq_ofNat_of_zero_le i0;have hk:k<sp.length:=by omega
  unfold stepP;rw[spOf_in hk]at h⊢;simp only[Int.toNat_natCast,place_eq];rcases h with h|h|h
  ·rw[if_pos h]
   have hk2:k<(sp.set k {sp[k]with a:=σ.get P.next}).length:=by rw[List.length_set];exact hk
   have hp2:(sp.set k {sp[k]with a:=σ.get P.next})[k].pc=1:=by rw[List.getElem_set_self];exact h
   exact step_one gl ga ha hs P σ sp w H hN k hk h _ _ rfl ⟨turn_setA sp k hk 1 2 _ h,by rw[turn_in hk2,hp2];rfl⟩
  ·rw[if_neg (by omega),if_pos h]
   exact step_two gl ga ha hs P σ sp w H hN k hk h _ rfl ⟨by rw[turnS_in hk,if_pos h],by rw[turn_in hk,h];rfl⟩
  ·rw[if_neg (by omega),if_neg (by omega),if_pos h]
   exact step_out gl ga ha hs P σ sp w H hN k hk h _ ⟨by rw[turnS_in hk,if_pos h],by rw[turn_in hk,h];rfl⟩
 ·have e:stepP P σ sp i=(false,σ,sp):=by unfold stepP;rw[if_neg (by omega),if_neg (by omega),if_neg (by omega)]
  rw[e];exact step_none gl ga ha hs P σ sp w H i h
theorem at_no (i p:Int)(h:¬(spOf sp i).pc=p)(hp:p≠0):Calls Tryz.prog 350 #[.pointer (some ⟨gl,0,none⟩),.int .i64 i,.int .i64 p] w fun e w'=>e= .returned (.pointer none)∧w'=w:=by
 by_cases hi:i<0∨(sp.length:Int)≤i
 ·have HS:=Lib.hid (spot_out_lk gl ga ha hs P σ sp w H i hi)
  clear H hi h;go_enter Tryz.func350,Tryz.ntmps350;go_wp2_with fail;refine(HS.out).mono ?_;rintro e wx ⟨rfl,hwx⟩;obtain rfl:=hwx.symm;go_wp2_with fail;go_ret;exact⟨rfl,rfl⟩
 ·obtain⟨k,rfl⟩:=Int.eq_ofNat_of_zero_le (show 0≤i by omega)
  have hk:k<sp.length:=by omega
  have HS:=Lib.hid (spot_in_lk gl ga ha hs P σ sp w H k hk);have c0:=(H.2.1.cells k hk).1;rw[spOf_in hk]at h;have e1:=ibne h;generalize sp[k].pc=x at*;clear H hi h hk hp;go_enter Tryz.func350,Tryz.ntmps350;go_wp2_with fail;refine(HS.out).mono ?_;rintro e wx ⟨rfl,hwx⟩;obtain rfl:=hwx.symm;go_wp2_with fail;go_ret;exact⟨rfl,rfl⟩
theorem at_yes (k:Nat)(hk:k<sp.length)(p:Int)(h:sp[k].pc=p):Calls Tryz.prog 350 #[.pointer (some ⟨gl,0,none⟩),.int .i64 (k:Int),.int .i64 p] w fun e w'=>e= .returned (.pointer (some ⟨hs,k*4,none⟩))∧w'=w:=by
 have HS:=Lib.hid (spot_in_lk gl ga ha hs P σ sp w H k hk);have c0:=(H.2.1.cells k hk).1;rw[h]at c0;have e1:=ibne_no (rfl:p=p);clear H h hk;go_enter Tryz.func350,Tryz.ntmps350;go_wp2_with fail;refine(HS.out).mono ?_;rintro e wx ⟨rfl,hwx⟩;obtain rfl:=hwx.symm;go_wp2_with fail;go_ret;exact⟨rfl,rfl⟩
set_option maxHeartbeats 4000000 in
set_option maxRecDepth 100000 in
theorem alone_lk (hN:Num P σ sp)(i:Int):Calls Tryz.prog 343 #[.pointer (some ⟨gl,0,none⟩),.int .i64 i] w fun e w'=>e= .returned (.bool (aloneP P σ sp i).1)∧LkAt w' gl ga ha hs P (aloneP P σ sp i).2 sp∧Mod [ga,ha] w w':=by
 have HO:=Lib.hid (fun W=>of_lk gl W);have HH:=Lib.hid H;by_cases h:(spOf sp i).pc=10
 ·obtain⟨i0,i1⟩:=spOf_range (sp:=sp) (i:=i) (by omega)
  obtain⟨k,rfl⟩:=Int.eq_ofNat_of_zero_le i0;have hk:k<sp.length:=by omega
  unfold aloneP;rw[spOf_in hk]at h⊢;rw[if_pos h];have HS:=Lib.hid (at_yes gl ga ha hs P σ sp w H k hk 10 h);obtain⟨⟨hP1,hP2⟩,hS,ho,hh,g0,g1⟩:=hN;obtain⟨na0,na1⟩:=hS k hk;have HSt:=Lib.hid (fun W (K:LkAt W gl ga ha hs P σ sp)=>load_any ga ha σ W K.1 ho P.next);obtain⟨d1,d2,d3,d4,d5⟩:=H.2.2.2.2;obtain⟨⟨cc,q0,q1,q2⟩,hl32⟩:=H.heads;have s1:=(H.2.1.cells k hk).2.1;generalize sp[k].a=xa at*;have e1:IntKind.i64.wrap (xa+1)=xa+1:=IntWalk.i64_in _ (by omega);generalize σ.op 1 P.next false 0=σ2 at*;generalize σ.get P.next=x at*;have HP:=Lib.hid h;clear H h i0 i1 hS hh;simp only;go_enter Tryz.func343,Tryz.ntmps343;go_wp2_with fail;refine(HO.out _).mono ?_;rintro e wx ⟨rfl,hwx⟩;obtain rfl:=hwx.symm;go_wp2_with fail;refine(HS.out).mono ?_;rintro e wx ⟨rfl,hwx⟩;obtain rfl:=hwx.symm;go_wp2_with fail
  go_region_held3(fun V=>V.cell? ⟨gl,1,none⟩=some (.pointer (some ⟨ga,0,none⟩))∧V.cell? ⟨gl,2,none⟩=some (.int .i64 P.next)∧V.cell? ⟨hs,k*4+1,none⟩=some (.int .i64 xa))
   (first|exact⟨q1,q2,s1⟩|exact k2)
   (first
    |(go_at_call 105;refine(HSt.out _ (HH.out.drewN 1)).mono ?_;rintro e w2 ⟨rfl,ha2,hm2⟩;have k2:=And.intro (keepM hm2 (show(w.drewN 1).cell? _=_ from q1) (by simp;omega)) (And.intro (keepM hm2 (show(w.drewN 1).cell? _=_ from q2) (by simp;omega)) (keepM hm2 (show(w.drewN 1).cell? _=_ from s1) (by simp;omega)));have H2:=Lib.hid ((HH.out.drewN 1).arena ha2 hm2)))
  have hmm:Mod [ga,ha] w w2:=((Mod.refl _ _).drewN 1).trans hm2;clear k2 ha2 hm2 q1 q2 s1;go_wp2_with fail;go_ret;exact⟨rfl,H2.out,hmm⟩
 ·have e:aloneP P σ sp i=(false,σ):=by unfold aloneP;rw[if_neg h]
  rw[e];have HS:=Lib.hid (at_no gl ga ha hs P σ sp w H i 10 h (by decide));clear H h hN e;go_enter Tryz.func343,Tryz.ntmps343;go_wp2_with fail;refine(HO.out _).mono ?_;rintro e wx ⟨rfl,hwx⟩;obtain rfl:=hwx.symm;go_wp2_with fail;refine(HS.out).mono ?_;rintro e wx ⟨rfl,hwx⟩;obtain rfl:=hwx.symm;go_wp2_with fail;go_quiet(fail);go_wp2_with fail;go_ret;exact⟨rfl,HH.out.drewN _,(Mod.refl _ _).drewN _⟩
end
set_option maxHeartbeats 4000000 in
set_option maxRecDepth 100000 in
theorem new_lk (ga ha:Nat)(σ σ1:Ar)(w:World)(H:ArAt w ga ha σ)(hh:ha<w.heap.size)(n:Nat)(n1:1≤n)(n2:n≤32)(next:Int)
 (ht:σ.take 2=((next,0),σ1)):
 Calls Tryz.prog 97 #[.pointer (some ⟨ga,0,none⟩),.int .i64 (n:Int)] w fun e w'=>∃gl hs,e= .returned (.tuple #[.pointer (some ⟨gl,0,none⟩),.int .i64 0])∧LkAt w' gl ga ha hs ⟨next⟩ σ1 (Ta.zeroS n)∧w.heap.size≤gl∧w.heap.size≤hs∧Mod [ga,ha] w w':=by
 have HT:=take_any ga ha σ w H 2;rw[ht]at HT;replace HT:=Lib.hid HT;have hmk:=fun W=>Ta.make_spots n (by omega) W;have hga:=H.lt;have i1:(1:Int)≤(n:Int):=by omega
 have i2:(n:Int)≤32:=by omega
 clear H ht;go_enter Tryz.func97,Tryz.ntmps97;go_wp2_with fail;refine HT.out.mono ?_;rintro e w2 ⟨rfl,h2,hm2⟩;have H2:=Lib.hid h2;clear h2;have hz2:=hm2.size
 have hK:LkAt ((w2.alloc (.cells ((Ta.zeroS n).flatMap decSp).toArray 134)).alloc (.cells #[.slice (some ⟨w2.heap.size,0,none⟩) n n,.pointer (some ⟨ga,0,none⟩),.int .i64 next] 267)) (w2.heap.size+1) ga ha w2.heap.size ⟨next⟩ σ1 (Ta.zeroS n):=by
  have hb:=(below_new w2 (.cells ((Ta.zeroS n).flatMap decSp).toArray 134));have hb2:=below_new (w2.alloc (.cells ((Ta.zeroS n).flatMap decSp).toArray 134)) (.cells #[.slice (some ⟨w2.heap.size,0,none⟩) n n,.pointer (some ⟨ga,0,none⟩),.int .i64 next] 267);have hbl:=blk_new (w2.alloc (.cells ((Ta.zeroS n).flatMap decSp).toArray 134)) (.cells #[.slice (some ⟨w2.heap.size,0,none⟩) n n,.pointer (some ⟨ga,0,none⟩),.int .i64 next] 267);have hzl:(Ta.zeroS n).length=n:=by simp[Ta.zeroS]
  refine⟨(H2.out.step hb).step hb2,(Ta.spAt_new w2 n).mod (S:=[]) (Mod.of_below hb2) (by simp),by omega,⟨n,?_⟩,by omega,by omega,by omega,by omega,by omega⟩;rw[hzl];simpa using hbl
 have hmm:Mod [ga,ha] w ((w2.alloc (.cells ((Ta.zeroS n).flatMap decSp).toArray 134)).alloc (.cells #[.slice (some ⟨w2.heap.size,0,none⟩) n n,.pointer (some ⟨ga,0,none⟩),.int .i64 next] 267)):=(hm2.alloc _).alloc _;have HK:=Lib.hid hK;clear H2 hm2 hK;have e0:(w2.alloc (.cells ((Ta.zeroS n).flatMap decSp).toArray 134)).heap.size=w2.heap.size+1:=by simp
 go_wp2_with fail;go_ret2;exact⟨w2.heap.size+1,w2.heap.size,rfl,HK.out,by omega,hz2,hmm⟩
end Go.Proofs.YtfmiioddhpkdkaaGreat.Tk
namespace Go.Proofs.YtfmiioddhpkdkaaGreat.Tk
open Go.RowKit Go.Proofs.YtfmiioddhpkdkaaGreat.Ara Go.Proofs.YtfmiioddhpkdkaaGreat.Lok
theorem Inv.num {P:Par}{σ:Ar}{sp:List Sp}{S T:Nat}(h:Inv P σ sp S T)(hT:T≤1000000)(ho:σ.ops≤1000000)(hn:P.next≤4096):Num P σ sp:=by
 refine⟨⟨h.n1,hn⟩,fun k hk=> ?_,ho,h.hasN,?_,?_⟩
 ·have:=h.rng k
  rw[spOf_in hk]at this;omega
 ·rw[h.gT];omega
 ·rw[h.gT];omega
structure OkP (P:Par)(σ:Ar)(sp:List Sp)(n m:Nat):Prop where
 inv:∃S T,Inv P σ sp S T∧T≤m
 ops:σ.ops≤m+1
 nx:P.next≤4096
 len:sp.length=n
section
variable {P:Par}{σ:Ar}{sp:List Sp}{n m:Nat}(h:OkP P σ sp n m)
include h
theorem OkP.act (kd i:Int):OkP P (doP P σ sp kd i).2.1 (doP P σ sp kd i).2.2 n (m+1):=by
 obtain⟨S,T,hi,hT⟩:=h.inv;obtain⟨S',T',hT',hi'⟩:=do_inv hi kd i;exact⟨⟨S',T',hi',by omega⟩,by have:=do_ops P σ sp kd i;have:=h.ops;omega,h.nx,(do_len P σ sp kd i).trans h.len⟩
theorem OkP.num (hm:m≤100000):Num P σ sp:=by
 obtain⟨S,T,hi,hT⟩:=h.inv;exact hi.num (by omega) (by have:=h.ops;omega) h.nx
theorem OkP.one:cnt (fun s=>s.pc==10) sp n≤1:=by
 obtain⟨S,T,hi,hT⟩:=h.inv;exact hi.one n
end
def first1 (n:Nat):Ar×List Sp:=((⟨zerosW 100,2,0,0,0,false⟩:Ar),Ta.zeroS n)
theorem OkP.first (n:Nat):OkP ⟨1⟩ (first1 n).1 (first1 n).2 n 0:=
 ⟨⟨0,0,inv_start n,Nat.le_refl _⟩,by show 0≤0+1;omega,by show(1:Int)≤4096;decide,by simp[first1,Ta.zeroS]⟩
end Go.Proofs.YtfmiioddhpkdkaaGreat.Tk
namespace Go.Proofs.YtfmiioddhpkdkaaGreat.Ta
open Go.RowKit Go.Proofs.YtfmiioddhpkdkaaGreat.Ara Go.Proofs.YtfmiioddhpkdkaaGreat.Lok
def tryB (P:Par)(σ:Ar):Bool:=σ.has P.word&&(σ.get P.word==0)
def stepP (P:Par)(σ:Ar)(sp:List Sp)(i:Int):Bool×Ar×List Sp:=
 if(spOf sp i).pc=1 then(tryB P σ,σ.op 4 P.word (tryB P σ) (i+1),sp.set i.toNat (if tryB P σ=true then {spOf sp i with pc:=10}else⟨2,min (2*(spOf sp i).a) P.most,(spOf sp i).a,(spOf sp i).c⟩))
 else if(spOf sp i).pc=2 then(false,σ,sp.set i.toNat ⟨if(spOf sp i).b-1=0 then 1 else 2,(spOf sp i).a,(spOf sp i).b-1,(spOf sp i).c⟩)
 else if(spOf sp i).pc=11 then(true,σ.op 2 P.word true 0,sp.set i.toNat {spOf sp i with pc:=0})
 else(false,σ,sp)
def askS (sp:List Sp)(i:Int):List Sp:=if turnB sp i 0 then sp.set i.toNat {spOf sp i with pc:=1,a:=1}else sp
def doP (P:Par)(σ:Ar)(sp:List Sp)(kd i:Int):Bool×Ar×List Sp:=
 if kd=0 then stepP P σ sp i else if kd=1 then(turnB sp i 0,σ,askS sp i)else if kd=2 then(turnB sp i 10,σ,turnS sp i 10 11)
 else if kd=3 then((spOf sp i).pc==10,σ,sp)else(false,σ,sp)
def holds (s:Sp):Prop:=s.pc=10∨s.pc=11
structure Inv (P:Par)(σ:Ar)(sp:List Sp):Prop where
 hl:σ.t≤σ.ws.length
 hw:σ.has P.word=true
 m1:1≤P.most
 m2:P.most≤1024
 pcs:∀i,(spOf sp i).pc=0∨(spOf sp i).pc=1∨(spOf sp i).pc=2∨holds (spOf sp i)
 ar:∀i,0≤(spOf sp i).a∧(spOf sp i).a≤1024
 br:∀i,0≤(spOf sp i).b∧(spOf sp i).b≤1024
 w1:∀i,(spOf sp i).pc=1∨(spOf sp i).pc=2→1≤(spOf sp i).a
 w2:∀i,(spOf sp i).pc=2→1≤(spOf sp i).b
 hold:∀i,holds (spOf sp i)→σ.get P.word=i+1
 free:(∀i,¬holds (spOf sp i))→σ.get P.word=0
theorem Inv.one {P:Par}{σ:Ar}{sp:List Sp}(h:Inv P σ sp)(n:Nat):cnt (fun s=>s.pc==10) sp n≤1:=by
 refine cnt_one _ _ (fun i j hi hj=> ?_) n;simp only[beq_iff_eq]at hi hj;have h1:=h.hold i (.inl hi);have h2:=h.hold j (.inl hj);omega
theorem Inv.turns {P:Par}{σ σ':Ar}{sp sp':List Sp}(h:Inv P σ sp)(i:Int)(s':Sp)(hs:∀j,spOf sp' j=if j=i then s' else spOf sp j)(hl':σ'.ws.length=σ.ws.length)(ht':σ'.t=σ.t)
 (hp:s'.pc=0∨s'.pc=1∨s'.pc=2∨holds s') (ha:0≤s'.a∧s'.a≤1024) (hb:0≤s'.b∧s'.b≤1024) (h1:s'.pc=1∨s'.pc=2→1≤s'.a) (h2:s'.pc=2→1≤s'.b)
 (hh:∀j,holds (spOf sp' j)→σ'.get P.word=j+1) (hf:(∀j,¬holds (spOf sp' j))→σ'.get P.word=0):Inv P σ' sp':=by
 have all:∀(Q:Sp→Prop),Q s'→(∀j,Q (spOf sp j))→∀j,Q (spOf sp' j):=by
  intro Q q0 q1 j;rw[hs];split
  ·exact q0
  ·exact q1 j
 refine {hl:=by rw[ht',hl'];exact h.hl,hw:= ?_,m1:=h.m1,m2:=h.m2,pcs:=all (fun s=>s.pc=0∨s.pc=1∨s.pc=2∨holds s) hp h.pcs,ar:=all (fun s=>0≤s.a∧s.a≤1024) ha h.ar,br:=all (fun s=>0≤s.b∧s.b≤1024) hb h.br,w1:=all (fun s=>s.pc=1∨s.pc=2→1≤s.a) h1 h.w1,w2:=all (fun s=>s.pc=2→1≤s.b) h2 h.w2,hold:=hh,free:=hf};have:=h.hw;unfold Ar.has at this⊢;rw[ht'];exact this
theorem Inv.idle {P:Par}{σ σ':Ar}{sp sp':List Sp}(h:Inv P σ sp)(i:Int)(s':Sp)(hs:∀j,spOf sp' j=if j=i then s' else spOf sp j)(hl':σ'.ws.length=σ.ws.length)(ht':σ'.t=σ.t)(hg:σ'.get P.word=σ.get P.word)
 (hp:s'.pc=0∨s'.pc=1∨s'.pc=2∨holds s') (ha:0≤s'.a∧s'.a≤1024) (hb:0≤s'.b∧s'.b≤1024) (h1:s'.pc=1∨s'.pc=2→1≤s'.a) (h2:s'.pc=2→1≤s'.b) (hh:holds s'↔holds (spOf sp i)):Inv P σ' sp':=by
 have hq:∀j,holds (spOf sp' j)↔holds (spOf sp j):=by
  intro j;rw[hs];split
  ·rename_i e;rw[e];exact hh
  ·exact Iff.rfl
 exact h.turns i s' hs hl' ht' hp ha hb h1 h2 (fun j hj=>by rw[hg];exact h.hold j ((hq j).1 hj)) (fun hf=>by rw[hg];exact h.free (fun j hj=>hf j ((hq j).2 hj)))
theorem holds_range {sp:List Sp}{i:Int}(h:holds (spOf sp i)):0≤i∧i<sp.length:=spOf_range (by unfold holds at h;omega)
theorem do_inv {P:Par}{σ:Ar}{sp:List Sp}(h:Inv P σ sp)(kd i:Int):Inv P (doP P σ sp kd i).2.1 (doP P σ sp kd i).2.2:=by
 unfold doP;have har:=h.ar i;have hbr:=h.br i;split
 ·unfold stepP
  split
  ·rename_i p
   obtain⟨i0,i1⟩:=spOf_range (sp:=sp) (i:=i) (by omega);have hw1:=h.w1 i (.inl p);cases ht:tryB P σ
   ·simp only[Bool.false_eq_true,if_false]
    have hm1:=h.m1;have hm2:=h.m2;refine h.idle i _ (spOf_set i0 i1 _) (op_len _ _ _ _ _) (op_t _ _ _ _ _) (get_read σ h.hl 4 _ _ _) (.inr (.inr (.inl rfl))) ⟨?_,?_⟩ har (fun _=> ?_) (fun _=>hw1) ?_
    ·show 0≤min (2*(spOf sp i).a) P.most;omega
    ·show min (2*(spOf sp i).a) P.most≤1024;omega
    ·show 1≤min (2*(spOf sp i).a) P.most;omega
    ·unfold holds;simp only;omega
   ·simp only[if_true]
    have hz:σ.get P.word=0:=by
     unfold tryB at ht;simp at ht;exact ht.2
    have hno:∀j,¬holds (spOf sp j):=by
     intro j hj;have:=h.hold j hj;have:=holds_range hj;omega
    have hg:=get_op σ h.hl 4 P.word (i+1) true P.word;simp only[h.hw,true_and,and_self,if_true]at hg;have hs:=spOf_set i0 i1 {spOf sp i with pc:=10};refine h.turns i _ hs (op_len _ _ _ _ _) (op_t _ _ _ _ _) (.inr (.inr (.inr (.inl rfl)))) har hbr (fun e=>by simp at e) (fun e=>by simp at e) (fun j hj=> ?_) (fun hf=> ?_)
    ·rw[hs]at hj
     split at hj
     ·rename_i e;rw[e];exact hg
     ·exact absurd hj (hno j)
    ·exact absurd (show holds (spOf _ i) by rw[hs,if_pos rfl];exact .inl rfl) (hf i)
  split
  ·rename_i _ p
   obtain⟨i0,i1⟩:=spOf_range (sp:=sp) (i:=i) (by omega);have hw1:=h.w1 i (.inr p);have hw2:=h.w2 i p;refine h.idle i _ (spOf_set i0 i1 _) rfl rfl rfl ?_ har (by simp only;omega) (fun _=>hw1) (fun e=> ?_) ?_
   ·simp only
    split
    ·exact .inr (.inl rfl)
    ·exact .inr (.inr (.inl rfl))
   ·simp only at e⊢
    split at e
    ·omega
    ·omega
   ·unfold holds
    simp only;split<;>omega
  split
  ·rename_i _ _ p
   obtain⟨i0,i1⟩:=spOf_range (sp:=sp) (i:=i) (by omega);have hi:=h.hold i (.inr p);have hg:=get_op σ h.hl 2 P.word 0 true P.word;simp only[h.hw,true_and,and_self,if_true]at hg;have hs:=spOf_set i0 i1 {spOf sp i with pc:=0}
   have hno:∀j,¬holds (spOf (sp.set i.toNat {spOf sp i with pc:=0}) j):=by
    intro j hj;rw[hs]at hj;split at hj
    ·unfold holds at hj;simp at hj
    ·rename_i e
     have:=h.hold j hj;exact e (by omega)
   exact h.turns i _ hs (op_len _ _ _ _ _) (op_t _ _ _ _ _) (.inl rfl) har hbr (fun e=>by simp at e) (fun e=>by simp at e) (fun j hj=>absurd hj (hno j)) (fun _=>hg)
  ·exact h
 split
 ·unfold askS
  split
  ·rename_i ht
   obtain⟨⟨i0,i1⟩,hp⟩:=turn_true ht;exact h.idle i _ (spOf_set i0 i1 {spOf sp i with pc:=1,a:=1}) rfl rfl rfl (.inr (.inl rfl)) (by simp only;omega) hbr (fun _=>by simp only;omega) (fun e=>by simp at e) (by unfold holds;simp only;omega)
  ·exact h
 split
 ·cases ht:turnB sp i 10
  ·simp only[turn_no 11 ht];exact h
  ·have hp:=(turn_true ht).2
   exact h.idle i _ (spOf_turn 11 ht) rfl rfl rfl (.inr (.inr (.inr (.inr rfl)))) har hbr (fun e=>by simp at e) (fun e=>by simp at e) ⟨fun _=> .inl hp,fun _=> .inr rfl⟩
 split<;>exact h
end Go.Proofs.YtfmiioddhpkdkaaGreat.Ta
namespace Go.Proofs.YtfmiioddhpkdkaaGreat.Ta
open Go.RowKit Go.Proofs.YtfmiioddhpkdkaaGreat.Ara Go.Proofs.YtfmiioddhpkdkaaGreat.Lok
theorem modHere3 {S:List Nat}{hs:Nat}{a w:World}(h:Mod S a w)(hh:hs∈S)(i j l:Nat)(u v x:Value):Mod S a (((w.setCell ⟨hs,i,none⟩ u).setCell ⟨hs,j,none⟩ v).setCell ⟨hs,l,none⟩ x):=((h.setCell hh u).setCell hh v).setCell hh x
section
variable(gl ga ha hs:Nat)(P:Par)(σ:Ar)(sp:List Sp)(w:World)(H:LkAt w gl ga ha hs P σ sp)
include H
section
variable(k:Nat)(hk:k<sp.length)
include hk
set_option maxHeartbeats 4000000 in
set_option maxRecDepth 100000 in
theorem step_two (hp:sp[k].pc=2)(hb:0≤sp[k].b∧sp[k].b≤4096)(sp2:List Sp)(h2:sp2=sp.set k ⟨if sp[k].b-1=0 then 1 else 2,sp[k].a,sp[k].b-1,sp[k].c⟩):Calls Tryz.prog 340 #[.pointer (some ⟨gl,0,none⟩),.int .i64 (k:Int)] w fun e w'=>e= .returned (.bool false)∧LkAt w' gl ga ha hs P σ sp2∧Mod [ga,ha,hs] w w':=by
 have HS:=Lib.hid (spot_in_lk gl ga ha hs P σ sp w H k hk);obtain⟨s0,s1,s2,s3,sf⟩:=H.2.1.cells k hk;rw[hp]at s0;have f2:=sf (k*4+2);have hu1:LkAt (w.setCell ⟨hs,k*4+2,none⟩ (.int .i64 (sp[k].b-1))) gl ga ha hs P σ (sp.set k {sp[k]with b:=sp[k].b-1}):=H.spots (H.2.1.setB k hk (sp[k].b-1)) ((Mod.refl [hs] w).setCell (by simp) _) (by rw[List.length_set]);have hkk:k<(sp.set k {sp[k]with b:=sp[k].b-1}).length:=by rw[List.length_set];exact hk
 have hgk:(sp.set k {sp[k]with b:=sp[k].b-1})[k]={sp[k]with b:=sp[k].b-1}:=List.getElem_set_self hkk;obtain⟨t0,t1,t2,t3,tf⟩:=hu1.2.1.cells k hkk;have g0:=tf (k*4);rw[hgk]at t0 t2;have e1:IntKind.i64.wrap (sp[k].b-1)=sp[k].b-1:=IntWalk.i64_in _ (by omega);have hm1:Mod [ga,ha,hs] w (w.setCell ⟨hs,k*4+2,none⟩ (.int .i64 (sp[k].b-1))):=(Mod.refl _ _).setCell (by simp) _;by_cases hz:sp[k].b-1=0
 ·have hu2:=hu1.spots (hu1.2.1.setPc k hkk 1) ((Mod.refl [hs] _).setCell (by simp) _) (by rw[List.length_set])
  have e:(sp.set k {sp[k]with b:=sp[k].b-1}).set k {(sp.set k {sp[k]with b:=sp[k].b-1})[k]with pc:=1}=sp2:=by
   rw[hgk,List.set_set,h2,if_pos hz]
  rw[e]at hu2;have HU:=Lib.hid hu2;have hm2:Mod [ga,ha,hs] w ((w.setCell ⟨hs,k*4+2,none⟩ (.int .i64 (sp[k].b-1))).setCell ⟨hs,k*4,none⟩ (.int .i64 1)):=hm1.setCell (by simp) _;have e9:=ibeq hz;clear hu1 hu2 e h2 hgk H t1 t3 tf sf s1 s3 hz;simp only[hp]at t0;generalize sp[k].b=xb at*;generalize sp[k].pc=xp at*;clear hp;go_enter Tryz.func340,Tryz.ntmps340;go_wp2_with fail;refine(HS.out).mono ?_;rintro e wx ⟨rfl,hwx⟩;obtain rfl:=hwx.symm;go_wp2_with fail;go_ret;exact⟨rfl,HU.out,hm2⟩
 ·have e:sp.set k {sp[k]with b:=sp[k].b-1}=sp2:=by
   rw[h2,if_neg hz,←hp]
  rw[e]at hu1;have HU:=Lib.hid hu1;have e9:=ibeq_no hz;clear hu1 e h2 hgk H t1 t3 tf sf s1 s3 hz t0 g0;generalize sp[k].b=xb at*;generalize sp[k].pc=xp at*;clear hp;go_enter Tryz.func340,Tryz.ntmps340;go_wp2_with fail;refine(HS.out).mono ?_;rintro e wx ⟨rfl,hwx⟩;obtain rfl:=hwx.symm;go_wp2_with fail;go_ret;exact⟨rfl,HU.out,hm1⟩
set_option maxHeartbeats 8000000 in
set_option maxRecDepth 100000 in
theorem step_one_no (ho:σ.ops≤1000000)(hp:sp[k].pc=1)(hr:0≤sp[k].a∧sp[k].a≤4096)(hmo:1≤P.most∧P.most≤4096)(hc:(σ.has P.word&&(σ.get P.word==0))=false)(sp2:List Sp)(h2:sp2=sp.set k ⟨2,min (2*sp[k].a) P.most,sp[k].a,sp[k].c⟩):Calls Tryz.prog 340 #[.pointer (some ⟨gl,0,none⟩),.int .i64 (k:Int)] w fun e w'=>e= .returned (.bool false)∧LkAt w' gl ga ha hs P (σ.op 4 P.word false ((k:Int)+1)) sp2∧Mod [ga,ha,hs] w w':=by
 have HSt:=fun W (K:LkAt W gl ga ha hs P σ sp)=>cas_any ga ha σ W K.1 ho P.word 0 ((k:Int)+1);rw[hc]at HSt;replace HSt:=Lib.hid HSt;have HS:=Lib.hid (spot_in_lk gl ga ha hs P σ sp w H k hk);obtain⟨⟨cc,q0,q1,q2,q3⟩,hl32⟩:=H.heads;obtain⟨d1,d2,d3,d4,d5⟩:=H.2.2.2.2;have s0:=(H.2.1.cells k hk).1;rw[hp]at s0;have HH:=Lib.hid H;have e1:IntKind.i64.wrap ((k:Int)+1)=(k:Int)+1:=IntWalk.i64_in _ (by omega);have e2:IntKind.i64.wrap (2*sp[k].a)=2*sp[k].a:=IntWalk.i64_in _ (by omega)
 have HC:=Lib.hid (fun W (K:LkAt W gl ga ha hs P (σ.op 4 P.word false ((k:Int)+1)) sp)=>show(W.cell? ⟨hs,k*4,none⟩=some (.int .i64 sp[k].pc)∧W.cell? ⟨hs,k*4+1,none⟩=some (.int .i64 sp[k].a)∧W.cell? ⟨hs,k*4+2,none⟩=some (.int .i64 sp[k].b)∧(∀j,W.frozen? ⟨hs,j,none⟩=false)∧W.cell? ⟨gl,2,none⟩=some (.int .i64 P.most))∧
  LkAt (((W.setCell ⟨hs,k*4,none⟩ (.int .i64 2)).setCell ⟨hs,k*4+2,none⟩ (.int .i64 sp[k].a)).setCell ⟨hs,k*4+1,none⟩ (.int .i64 (min (2*sp[k].a) P.most))) gl ga ha hs P (σ.op 4 P.word false ((k:Int)+1)) sp2 from by
  obtain⟨⟨cc,_,_,q2,_⟩,_⟩:=K.heads;obtain⟨c0,c1,c2,_,cf⟩:=K.2.1.cells k hk;refine⟨⟨c0,c1,c2,cf,q2⟩,?_⟩;have l1:k<(sp.set k {sp[k]with pc:=2}).length:=by rw[List.length_set];exact hk
  have u1:=K.spots (K.2.1.setPc k hk 2) ((Mod.refl [hs] W).setCell (by simp) _) (by rw[List.length_set]);have g1:(sp.set k {sp[k]with pc:=2})[k]={sp[k]with pc:=2}:=List.getElem_set_self l1;have u2:=u1.spots (u1.2.1.setB k l1 sp[k].a) ((Mod.refl [hs] _).setCell (by simp) _) (by rw[List.length_set]);rw[g1,List.set_set]at u2;have l2:k<(sp.set k { {sp[k]with pc:=2}with b:=sp[k].a}).length:=by rw[List.length_set];exact hk
  have u3:=u2.spots (u2.2.1.setA k l2 (min (2*sp[k].a) P.most)) ((Mod.refl [hs] _).setCell (by simp) _) (by rw[List.length_set]);rw[List.getElem_set_self,List.set_set]at u3;rw[h2];exact u3)
 obtain⟨mn,hmn⟩:∃mn,min (2*sp[k].a) P.most=mn:=⟨_,rfl⟩;have hmn2:(2*sp[k].a≤P.most∧mn=2*sp[k].a)∨(P.most<2*sp[k].a∧mn=P.most):=by omega
 rw[hmn]at HC;generalize σ.op 4 P.word false ((k:Int)+1)=σ2 at*;generalize sp[k].pc=xp at*;generalize sp[k].a=xa at*;generalize sp[k].b=xb at*;have HMN:=Lib.hid hmn2;clear hmn hmn2;clear h2 H hp hc ho;have HKK:=Lib.hid hk;go_enter Tryz.func340,Tryz.ntmps340;go_wp2_with fail;refine(HS.out).mono ?_;rintro e wx ⟨rfl,hwx⟩;obtain rfl:=hwx.symm;go_wp2_with fail
 go_region_held3(fun V=>V.cell? ⟨gl,0,none⟩=some (.pointer (some ⟨ga,0,none⟩))∧V.cell? ⟨gl,1,none⟩=some (.int .i64 P.word))
  (first|exact⟨q0,q1⟩|exact k2)
  (first
   |(go_at_call 202;refine(HSt.out _ (HH.out.drewN 1)).mono ?_;rintro e w2 ⟨rfl,ha2,hm2⟩;have k2:=And.intro (keepM hm2 (show(w.drewN 1).cell? _=_ from q0) (by simp;omega)) (keepM hm2 (show(w.drewN 1).cell? _=_ from q1) (by simp;omega));have H2:=Lib.hid ((HH.out.drewN 1).arena ha2 hm2)))
 have hmm:Mod [ga,ha,hs] w w2:=((Mod.refl _ _).drewN 1).trans (hm2.sub (by simp));clear k2 ha2 hm2;obtain⟨⟨c0,c1,c2,cf,c4⟩,_⟩:=HC.out _ H2.out;have HD:=Lib.hid (HC.out _ (H2.out.drewN 1)).2;have f0:=cf (k*4);have f1:=cf (k*4+1);have f2:=cf (k*4+2);clear cf HC q0 q1 q2 q3 s0;have hmm1:=hmm.drewN 1;have HM3:=Lib.hid (modHere3 (hs:=hs) hmm1 (by simp) (k*4) (k*4+2) (k*4+1) (.int .i64 2) (.int .i64 xa) (.int .i64 mn));clear hmm hmm1;rcases HMN.out with⟨hle,rfl⟩|⟨hlt,rfl⟩
 ·clear HMN
  go_wp2_with fail;go_region
  all_goals
   go_wp2_with fail;go_ret;exact⟨rfl,HD.out,HM3.out⟩
 ·clear HMN
  go_wp2_with fail;go_region
  all_goals
   go_wp2_with fail;go_ret;exact⟨rfl,HD.out,HM3.out⟩
end
end
end Go.Proofs.YtfmiioddhpkdkaaGreat.Ta
