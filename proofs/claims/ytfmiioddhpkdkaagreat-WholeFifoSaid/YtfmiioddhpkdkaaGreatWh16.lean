/- Merged texts: Cl3, Cl4, Cl5, ClI, FlS, Fl4. -/
import Derived.Test.YtfmiioddhpkdkaaGreatWh15
set_option linter.unusedVariables false
set_option linter.unusedSimpArgs false
namespace Go.Proofs.YtfmiioddhpkdkaaGreat.Cl
open Go.RowKit Go.Proofs.YtfmiioddhpkdkaaGreat.Ara Go.Proofs.YtfmiioddhpkdkaaGreat.Lok
theorem sfld0 (a b c d:Int)(W:World):(Instr.field 134 (.agg #[.int .i64 a,.int .i64 b,.int .i64 c,.int .i64 d]) 0).run Tryz.prog W= .ok (.int .i64 a) W:=by
 simp[Instr.field,run_underlying Tryz.underlying134,asAgg,go_sem]
section
variable(gl ga ha hs:Nat)(P:Par)(σ:Ar)(sp:List Sp)(w:World)(H:LkAt w gl ga ha hs P σ sp)
include H
theorem step_none (i:Int)(h1:(spOf sp i).pc≠1)(h2:(spOf sp i).pc≠2)(h3:(spOf sp i).pc≠3)(h4:(spOf sp i).pc≠11):Calls Tryz.prog 384 #[.pointer (some ⟨gl,0,none⟩),.int .i64 i] w fun e w'=>e= .returned (.bool false)∧LkAt w' gl ga ha hs P σ sp∧Mod [ga,ha,hs] w w':=by
 have hbn:=below_new w (.cells #[.pointer (some ⟨gl,0,none⟩)] 235);have H1:=Lib.hid (H.same hbn);have c0:=blk_cell (blk_new w (.cells #[.pointer (some ⟨gl,0,none⟩)] 235)) 0 (by simp);simp only[List.getElem_toArray,List.getElem_cons_zero]at c0;by_cases hi:i<0∨(sp.length:Int)≤i
 ·have HS:=Lib.hid (spot_out_lk gl ga ha hs P σ sp _ H1.out i hi)
  clear H hi h1 h2 h3 h4;go_enter Tryz.func384,Tryz.ntmps384;go_wp2_with fail;refine(HS.out).mono ?_;rintro e wx ⟨rfl,hwx⟩;obtain rfl:=hwx.symm;go_wp2_with fail;go_ret;exact⟨rfl,H1.out,Mod.of_below hbn⟩
 ·obtain⟨k,rfl⟩:=Int.eq_ofNat_of_zero_le (show 0≤i by omega)
  have hk:k<sp.length:=by omega
  have hmf:∀(fn:Fn) (first cap:Array Value) (w:World),(Instr.makeFunc fn first cap).run Tryz.prog w= .ok (.func fn first cap) w:=fun _ _ _ _=>rfl;have HS:=Lib.hid (spot_in_lk gl ga ha hs P σ sp _ H1.out k hk);have s0:=(H1.out.2.1.cells k hk).1;rw[spOf_in hk]at h1 h2 h3 h4;generalize sp[k].pc=xp at*;have e1:=ibeq_no h1;have e2:=ibeq_no h2;have e3:=ibeq_no h3;have e4:=ibeq_no h4;clear H hi h1 h2 h3 h4 hk;go_enter Tryz.func384,Tryz.ntmps384;go_wp2_with fail;refine(HS.out).mono ?_;rintro e wx ⟨rfl,hwx⟩;obtain rfl:=hwx.symm;go_wp2_with fail;go_ret;exact⟨rfl,H1.out,Mod.of_below hbn⟩
theorem step_lk (hN:Num P σ sp)(i:Int):Calls Tryz.prog 384 #[.pointer (some ⟨gl,0,none⟩),.int .i64 i] w fun e w'=>e= .returned (.bool (stepP P σ sp i).1)∧LkAt w' gl ga ha hs P (stepP P σ sp i).2.1 (stepP P σ sp i).2.2∧Mod [ga,ha,hs] w w':=by
 by_cases h:(spOf sp i).pc=1∨(spOf sp i).pc=2∨(spOf sp i).pc=3∨(spOf sp i).pc=11
 ·obtain⟨i0,i1⟩:=spOf_range (sp:=sp) (i:=i) (by omega)
  obtain⟨k,rfl⟩:=Int.eq_ofNat_of_zero_le i0;have hk:k<sp.length:=by omega
  unfold stepP;rw[spOf_in hk]at h⊢;simp only[Int.toNat_natCast];rcases h with h|h|h|h
  ·rw[if_pos h]
   exact step_one gl ga ha hs P σ sp w H hN k hk h
  ·rw[if_neg (by omega),if_pos h]
   exact step_two gl ga ha hs P σ sp w H hN k hk h
  ·rw[if_neg (by omega),if_neg (by omega),if_pos h]
   exact step_three gl ga ha hs P σ sp w H hN k hk h
  ·rw[if_neg (by omega),if_neg (by omega),if_neg (by omega),if_pos h]
   exact step_out gl ga ha hs P σ sp w H hN k hk h
 ·have e:stepP P σ sp i=(false,σ,sp):=by unfold stepP;rw[if_neg (by omega),if_neg (by omega),if_neg (by omega),if_neg (by omega)]
  rw[e];exact step_none gl ga ha hs P σ sp w H i (by omega) (by omega) (by omega) (by omega)
set_option maxHeartbeats 4000000 in
set_option maxRecDepth 100000 in
theorem alone_lk (hN:Num P σ sp)(i:Int):Calls Tryz.prog 379 #[.pointer (some ⟨gl,0,none⟩),.int .i64 i] w fun e w'=>e= .returned (.bool (aloneP P σ sp i).1)∧LkAt w' gl ga ha hs P (aloneP P σ sp i).2 sp∧Mod [ga,ha] w w':=by
 have q1:=fun a b c d W=>sfld0 a b c d W;by_cases hp:(spOf sp i).pc=10
 ·have e:aloneP P σ sp i=(σ.get P.tail==(spOf sp i).a,σ.op 1 P.tail false 0):=by unfold aloneP;rw[if_pos hp]
  rw[e];clear e;obtain⟨i0,i1⟩:=spOf_range (sp:=sp) (i:=i) (by omega);obtain⟨k,rfl⟩:=Int.eq_ofNat_of_zero_le i0;have hk:k<sp.length:=by omega
  have HSt:=Lib.hid (fun W (K:LkAt W gl ga ha hs P σ sp)=>load_any ga ha σ W K.1 hN.2.2.1 P.tail);have hth:=lth H.1 hN.2.2.2;obtain⟨d1,d2,d3,d4,d5⟩:=H.2.2.2.2;have HK7:=Lib.hid (H.drewN 1);obtain⟨⟨cc,q0,q1',q2⟩,_⟩:=H.heads;have s1:=(H.2.1.cells k hk).2.1;have HSp:=Lib.hid (Spot_lk gl ga ha hs P σ sp (w.drewN 1) HK7.out (k:Int));rw[spOf_in hk]at hp;rw[spOf_in hk,hp]at HSp;rw[spOf_in hk];have e3:(k:Int)<(sp.length:Int):=by omega
  have e4:(0:Int)≤(k:Int):=by omega
  have e5:(k:Int).toNat=k:=by omega
  generalize sp[k].a=xa at*;generalize sp[k].b=xb at*;generalize sp[k].c=xc at*;generalize σ.op 1 P.tail false 0=σ2 at*;generalize σ.get P.tail=x at*;have hm1:Mod [ga,ha] w (w.drewN 1):=(Mod.refl _ _).drewN 1;have e6:(x==xa)=decide (x=xa):=by by_cases h:x=xa<;>simp[h]
  have HE6:=Lib.hid e6;clear H hN hp hk i0 i1 e6;go_enter Tryz.func379,Tryz.ntmps379;go_wp2_with fail;refine wp_region_held_drew (S:=fun V=>V.cell? ⟨gl,0,none⟩=some (.pointer (some ⟨ga,0,none⟩))∧V.cell? ⟨gl,1,none⟩=some (.int .i64 P.tail)∧V.cell? ⟨gl,2,none⟩=some (.slice (some ⟨hs,0,none⟩) sp.length cc)∧V.cell? ⟨hs,k*4+1,none⟩=some (.int .i64 xa)) (by kernel_rfl) ⟨q0,q1',q2,s1⟩ (fun hHeld=> ?_);refine take_to 0 (some 5) (v:= ?_) rfl rfl (by kernel_rfl) (by kernel_rfl) (by kernel_rfl) (fun _ _ _ h=>h) (Or.inl ⟨by rfl,?_⟩) (by first|trivial|assumption) ?_;rotate_left;focus(intro w hSw;(try dsimp only at hSw);go_simp;(try with_reducible rfl))
  simp only[Act.put,List.setIfInBounds_toArray,List.set_cons_zero,List.set_cons_succ];refine take_to 1 (some 6) (v:= ?_) rfl rfl (by kernel_rfl) (by kernel_rfl) (by kernel_rfl) (fun _ _ _ h=>h) (Or.inl ⟨by rfl,?_⟩) (by first|trivial|assumption) ?_;rotate_left;focus(intro w hSw;(try dsimp only at hSw);go_simp;(try with_reducible rfl))
  simp only[Act.put,List.setIfInBounds_toArray,List.set_cons_zero,List.set_cons_succ];refine wpAnyH_ready (rs:=[2]) (by kernel_rfl) (by simp) ?_;refine AllReadyH.cons rfl (fun K hK=> ?_) AllReadyH.nil;go_simp;refine HSp.out.mono ?_;rintro e w2 ⟨rfl,hb2⟩;have H2:=Lib.hid (HK7.out.same hb2);have hm2:Mod [ga,ha] w w2:=hm1.trans (Mod.of_below hb2);go_simp;refine hK.out _ _ ⟨keep1 hb2 hHeld.1,keep1 hb2 hHeld.2.1,keep1 hb2 hHeld.2.2.1,keep1 hb2 hHeld.2.2.2⟩ (fun hHeld=> ?_);clear hb2;refine take_to 3 (some 8) (v:= ?_) rfl rfl (by kernel_rfl) (by kernel_rfl) (by kernel_rfl) (fun _ _ _ h=>h) (Or.inl ⟨by rfl,?_⟩) (by first|trivial|assumption) ?_;rotate_left;focus(intro w hSw;(try dsimp only at hSw);go_simp;(try with_reducible rfl))
  simp only[Act.put,List.setIfInBounds_toArray,List.set_cons_zero,List.set_cons_succ];refine take_to 4 (some 9) (v:= ?_) rfl rfl (by kernel_rfl) (by kernel_rfl) (by kernel_rfl) (fun _ _ _ h=>h) (Or.inl ⟨by rfl,?_⟩) (by first|trivial|assumption) ?_;rotate_left;focus(intro w hSw;(try dsimp only at hSw);go_simp;(try with_reducible rfl))
  simp only[Act.put,List.setIfInBounds_toArray,List.set_cons_zero,List.set_cons_succ];refine take_to 5 (some 10) (v:= ?_) rfl rfl (by kernel_rfl) (by kernel_rfl) (by kernel_rfl) (fun _ _ _ h=>h) (Or.inl ⟨by rfl,?_⟩) (by first|trivial|assumption) ?_;rotate_left;focus(intro w hSw;(try dsimp only at hSw);go_simp;(try with_reducible rfl))
  simp only[Act.put,List.setIfInBounds_toArray,List.set_cons_zero,List.set_cons_succ];refine take_to 6 (some 11) (v:= ?_) rfl rfl (by kernel_rfl) (by kernel_rfl) (by kernel_rfl) (fun _ _ _ h=>h) (Or.inl ⟨by rfl,?_⟩) (by first|trivial|assumption) ?_;rotate_left;focus(intro w hSw;(try dsimp only at hSw);go_simp;(try with_reducible rfl))
  simp only[Act.put,List.setIfInBounds_toArray,List.set_cons_zero,List.set_cons_succ];refine take_to 7 (some 12) (v:= ?_) rfl rfl (by kernel_rfl) (by kernel_rfl) (by kernel_rfl) (fun _ _ _ h=>h) (Or.inl ⟨by rfl,?_⟩) (by first|trivial|assumption) ?_;rotate_left;focus(intro w hSw;(try dsimp only at hSw);go_simp;(try with_reducible rfl))
  simp only[Act.put,List.setIfInBounds_toArray,List.set_cons_zero,List.set_cons_succ];refine take_to 8 (some 13) (v:= ?_) rfl rfl (by kernel_rfl) (by kernel_rfl) (by kernel_rfl) (fun _ _ _ h=>h) (Or.inl ⟨by rfl,?_⟩) (by first|trivial|assumption) ?_;rotate_left;focus(intro w hSw;(try dsimp only at hSw);go_simp;(try with_reducible rfl))
  simp only[Act.put,List.setIfInBounds_toArray,List.set_cons_zero,List.set_cons_succ];refine take_to 9 (some 14) (v:= ?_) rfl rfl (by kernel_rfl) (by kernel_rfl) (by kernel_rfl) (fun _ _ _ h=>h) (Or.inl ⟨by rfl,?_⟩) (by first|trivial|assumption) ?_;rotate_left;focus(intro w hSw;(try dsimp only at hSw);go_simp;(try with_reducible rfl))
  simp only[Act.put,List.setIfInBounds_toArray,List.set_cons_zero,List.set_cons_succ];refine take_to 10 (some 15) (v:= ?_) rfl rfl (by kernel_rfl) (by kernel_rfl) (by kernel_rfl) (fun _ _ _ h=>h) (Or.inl ⟨by rfl,?_⟩) (by first|trivial|assumption) ?_;rotate_left;focus(intro w hSw;(try dsimp only at hSw);go_simp;(try with_reducible rfl))
  simp only[Act.put,List.setIfInBounds_toArray,List.set_cons_zero,List.set_cons_succ];refine take_to 11 (some 16) (v:= ?_) rfl rfl (by kernel_rfl) (by kernel_rfl) (by kernel_rfl) (fun _ _ _ h=>h) (Or.inl ⟨by rfl,?_⟩) (by first|trivial|assumption) ?_;rotate_left;focus(intro w hSw;(try dsimp only at hSw);go_simp;(try with_reducible rfl))
  simp only[Act.put,List.setIfInBounds_toArray,List.set_cons_zero,List.set_cons_succ];refine take_to 12 (some 17) (v:= ?_) rfl rfl (by kernel_rfl) (by kernel_rfl) (by kernel_rfl) (fun _ _ _ h=>h) (Or.inl ⟨by rfl,?_⟩) (by first|trivial|assumption) ?_;rotate_left;focus(intro w hSw;(try dsimp only at hSw);go_simp;(try with_reducible rfl))
  simp only[Act.put,List.setIfInBounds_toArray,List.set_cons_zero,List.set_cons_succ];refine take_to 13 (some 18) (v:= ?_) rfl rfl (by kernel_rfl) (by kernel_rfl) (by kernel_rfl) (fun _ _ _ h=>h) (Or.inl ⟨by rfl,?_⟩) (by first|trivial|assumption) ?_;rotate_left;focus(intro w hSw;(try dsimp only at hSw);go_simp;(try with_reducible rfl))
  simp only[Act.put,List.setIfInBounds_toArray,List.set_cons_zero,List.set_cons_succ];refine take_to 15 (some 20) (v:= ?_) rfl rfl (by kernel_rfl) (by kernel_rfl) (by kernel_rfl) (fun _ _ _ h=>h) (Or.inl ⟨by rfl,?_⟩) (by first|trivial|assumption) ?_;rotate_left;focus(intro w hSw;(try dsimp only at hSw);go_simp;(try with_reducible rfl))
  simp only[Act.put,List.setIfInBounds_toArray,List.set_cons_zero,List.set_cons_succ];refine take_to 16 (some 21) (v:= ?_) rfl rfl (by kernel_rfl) (by kernel_rfl) (by kernel_rfl) (fun _ _ _ h=>h) (Or.inl ⟨by rfl,?_⟩) (by first|trivial|assumption) ?_;rotate_left;focus(intro w hSw;(try dsimp only at hSw);go_simp;(try with_reducible rfl))
  simp only[Act.put,List.setIfInBounds_toArray,List.set_cons_zero,List.set_cons_succ];refine take_to 17 (some 22) (v:= ?_) rfl rfl (by kernel_rfl) (by kernel_rfl) (by kernel_rfl) (fun _ _ _ h=>h) (Or.inl ⟨by rfl,?_⟩) (by first|trivial|assumption) ?_;rotate_left;focus(intro w hSw;(try dsimp only at hSw);go_simp;(try with_reducible rfl))
  simp only[Act.put,List.setIfInBounds_toArray,List.set_cons_zero,List.set_cons_succ];refine take_to 18 (some 23) (v:= ?_) rfl rfl (by kernel_rfl) (by kernel_rfl) (by kernel_rfl) (fun _ _ _ h=>h) (Or.inl ⟨by rfl,?_⟩) (by first|trivial|assumption) ?_;rotate_left;focus(intro w hSw;(try dsimp only at hSw);go_simp;(try with_reducible rfl))
  simp only[Act.put,List.setIfInBounds_toArray,List.set_cons_zero,List.set_cons_succ];refine take_to 19 (some 24) (v:= ?_) rfl rfl (by kernel_rfl) (by kernel_rfl) (by kernel_rfl) (fun _ _ _ h=>h) (Or.inl ⟨by rfl,?_⟩) (by first|trivial|assumption) ?_;rotate_left;focus(intro w hSw;(try dsimp only at hSw);go_simp;(try with_reducible rfl))
  simp only[Act.put,List.setIfInBounds_toArray,List.set_cons_zero,List.set_cons_succ];refine take_to 20 (some 25) (v:= ?_) rfl rfl (by kernel_rfl) (by kernel_rfl) (by kernel_rfl) (fun _ _ _ h=>h) (Or.inl ⟨by rfl,?_⟩) (by first|trivial|assumption) ?_;rotate_left;focus(intro w hSw;(try dsimp only at hSw);go_simp;(try with_reducible rfl))
  simp only[Act.put,List.setIfInBounds_toArray,List.set_cons_zero,List.set_cons_succ];refine take_to 21 (some 26) (v:= ?_) rfl rfl (by kernel_rfl) (by kernel_rfl) (by kernel_rfl) (fun _ _ _ h=>h) (Or.inl ⟨by rfl,?_⟩) (by first|trivial|assumption) ?_;rotate_left;focus(intro w hSw;(try dsimp only at hSw);go_simp;(try with_reducible rfl))
  simp only[Act.put,List.setIfInBounds_toArray,List.set_cons_zero,List.set_cons_succ];refine take_to 22 (some 27) (v:= ?_) rfl rfl (by kernel_rfl) (by kernel_rfl) (by kernel_rfl) (fun _ _ _ h=>h) (Or.inl ⟨by rfl,?_⟩) (by first|trivial|assumption) ?_;rotate_left;focus(intro w hSw;(try dsimp only at hSw);go_simp;(try with_reducible rfl))
  simp only[Act.put,List.setIfInBounds_toArray,List.set_cons_zero,List.set_cons_succ];refine wpAnyH_ready (rs:=[14]) (by kernel_rfl) (by simp) ?_;refine AllReadyH.cons rfl (fun K hK=> ?_) AllReadyH.nil;go_simp;refine(HSt.out _ H2.out).mono ?_;rintro e w3 ⟨rfl,ha3,hm3⟩;have H3:=Lib.hid (H2.out.arena ha3 hm3);go_simp;refine hK.out _ _ ⟨keepM hm3 hHeld.1 (by simp;omega),keepM hm3 hHeld.2.1 (by simp;omega),keepM hm3 hHeld.2.2.1 (by simp;omega),keepM hm3 hHeld.2.2.2 (by simp;omega)⟩ (fun hHeld=> ?_);refine take_to 23 (some 28) (v:= ?_) rfl rfl (by kernel_rfl) (by kernel_rfl) (by kernel_rfl) (fun _ _ _ h=>h) (Or.inl ⟨by rfl,?_⟩) (by first|trivial|assumption) ?_;rotate_left;focus(intro w hSw;(try dsimp only at hSw);go_simp;(try with_reducible rfl))
  simp only[Act.put,List.setIfInBounds_toArray,List.set_cons_zero,List.set_cons_succ];refine take_to 24 (some 29) (v:= ?_) rfl rfl (by kernel_rfl) (by kernel_rfl) (by kernel_rfl) (fun _ _ _ h=>h) (Or.inl ⟨by rfl,?_⟩) (by first|trivial|assumption) ?_;rotate_left;focus(intro w hSw;(try dsimp only at hSw);go_simp;(try with_reducible rfl))
  simp only[Act.put,List.setIfInBounds_toArray,List.set_cons_zero,List.set_cons_succ];refine take_to 25 (some 4) (v:= ?_) rfl rfl (by kernel_rfl) (by kernel_rfl) (by kernel_rfl) (fun _ _ _ h=>h) (Or.inl ⟨by rfl,?_⟩) (by first|trivial|assumption) ?_;rotate_left;focus(intro w hSw;(try dsimp only at hSw);go_simp;(try with_reducible rfl))
  simp only[Act.put,List.setIfInBounds_toArray,List.set_cons_zero,List.set_cons_succ];refine wpAnyH_done (by kernel_rfl) ?_ _;have hm4:=hm2.trans hm3;clear ha3 hm3;go_wp2_with fail;go_ret;exact⟨rfl,H3.out,hm4⟩
 ·have e:aloneP P σ sp i=(false,σ):=by unfold aloneP;rw[if_neg hp]
  rw[e];clear e;have HK7:=Lib.hid (H.drewN 1);have HSp:=Lib.hid (Spot_lk gl ga ha hs P σ sp (w.drewN 1) HK7.out i);have hm1:Mod [ga,ha] w (w.drewN 1):=(Mod.refl _ _).drewN 1;have e9:=ibeq_no hp;generalize spOf sp i=s at*;obtain⟨xp,xa,xb,xc⟩:=s;clear H hN hp;go_enter Tryz.func379,Tryz.ntmps379;go_wp2_with fail;refine wp_region_held_drew (S:=fun _=>True) (by kernel_rfl) trivial (fun hHeld=> ?_);refine take_to 0 (some 5) (v:= ?_) rfl rfl (by kernel_rfl) (by kernel_rfl) (by kernel_rfl) (fun _ _ _ h=>h) (Or.inl ⟨by rfl,?_⟩) (by first|trivial|assumption) ?_;rotate_left;focus(intro w hSw;(try dsimp only at hSw);go_simp;(try with_reducible rfl))
  simp only[Act.put,List.setIfInBounds_toArray,List.set_cons_zero,List.set_cons_succ];refine take_to 1 (some 6) (v:= ?_) rfl rfl (by kernel_rfl) (by kernel_rfl) (by kernel_rfl) (fun _ _ _ h=>h) (Or.inl ⟨by rfl,?_⟩) (by first|trivial|assumption) ?_;rotate_left;focus(intro w hSw;(try dsimp only at hSw);go_simp;(try with_reducible rfl))
  simp only[Act.put,List.setIfInBounds_toArray,List.set_cons_zero,List.set_cons_succ];refine wpAnyH_ready (rs:=[2]) (by kernel_rfl) (by simp) ?_;refine AllReadyH.cons rfl (fun K hK=> ?_) AllReadyH.nil;go_simp;refine HSp.out.mono ?_;rintro e w2 ⟨rfl,hb2⟩;have H2:=Lib.hid (HK7.out.same hb2);have hm2:Mod [ga,ha] w w2:=hm1.trans (Mod.of_below hb2);go_simp;refine hK.out _ _ trivial (fun hHeld=> ?_);clear hb2;refine take_to 3 (some 8) (v:= ?_) rfl rfl (by kernel_rfl) (by kernel_rfl) (by kernel_rfl) (fun _ _ _ h=>h) (Or.inl ⟨by rfl,?_⟩) (by first|trivial|assumption) ?_;rotate_left;focus(intro w hSw;(try dsimp only at hSw);go_simp;(try with_reducible rfl))
  simp only[Act.put,List.setIfInBounds_toArray,List.set_cons_zero,List.set_cons_succ];refine take_to 4 (some 9) (v:= ?_) rfl rfl (by kernel_rfl) (by kernel_rfl) (by kernel_rfl) (fun _ _ _ h=>h) (Or.inl ⟨by rfl,?_⟩) (by first|trivial|assumption) ?_;rotate_left;focus(intro w hSw;(try dsimp only at hSw);go_simp;(try with_reducible rfl))
  simp only[Act.put,List.setIfInBounds_toArray,List.set_cons_zero,List.set_cons_succ];refine take_to 5 (some 10) (v:= ?_) rfl rfl (by kernel_rfl) (by kernel_rfl) (by kernel_rfl) (fun _ _ _ h=>h) (Or.inl ⟨by rfl,?_⟩) (by first|trivial|assumption) ?_;rotate_left;focus(intro w hSw;(try dsimp only at hSw);go_simp;(try with_reducible rfl))
  simp only[Act.put,List.setIfInBounds_toArray,List.set_cons_zero,List.set_cons_succ];refine take_to 6 (some 11) (v:=undef) rfl rfl (by kernel_rfl) (by kernel_rfl) (by kernel_rfl) (fun _ _ _ h=>h) (Or.inr ⟨by rfl,rfl⟩) (by first|trivial|assumption) ?_;simp only[Act.put,List.setIfInBounds_toArray,List.set_cons_zero,List.set_cons_succ];refine take_to 7 (some 12) (v:=undef) rfl rfl (by kernel_rfl) (by kernel_rfl) (by kernel_rfl) (fun _ _ _ h=>h) (Or.inr ⟨by rfl,rfl⟩) (by first|trivial|assumption) ?_;simp only[Act.put,List.setIfInBounds_toArray,List.set_cons_zero,List.set_cons_succ];refine take_to 8 (some 13) (v:=undef) rfl rfl (by kernel_rfl) (by kernel_rfl) (by kernel_rfl) (fun _ _ _ h=>h) (Or.inr ⟨by rfl,rfl⟩) (by first|trivial|assumption) ?_;simp only[Act.put,List.setIfInBounds_toArray,List.set_cons_zero,List.set_cons_succ];refine take_to 9 (some 14) (v:=undef) rfl rfl (by kernel_rfl) (by kernel_rfl) (by kernel_rfl) (fun _ _ _ h=>h) (Or.inr ⟨by rfl,rfl⟩) (by first|trivial|assumption) ?_;simp only[Act.put,List.setIfInBounds_toArray,List.set_cons_zero,List.set_cons_succ];refine take_to 10 (some 15) (v:=undef) rfl rfl (by kernel_rfl) (by kernel_rfl) (by kernel_rfl) (fun _ _ _ h=>h) (Or.inr ⟨by rfl,rfl⟩) (by first|trivial|assumption) ?_;simp only[Act.put,List.setIfInBounds_toArray,List.set_cons_zero,List.set_cons_succ];refine take_to 11 (some 16) (v:=undef) rfl rfl (by kernel_rfl) (by kernel_rfl) (by kernel_rfl) (fun _ _ _ h=>h) (Or.inr ⟨by rfl,rfl⟩) (by first|trivial|assumption) ?_;simp only[Act.put,List.setIfInBounds_toArray,List.set_cons_zero,List.set_cons_succ];refine take_to 12 (some 17) (v:=undef) rfl rfl (by kernel_rfl) (by kernel_rfl) (by kernel_rfl) (fun _ _ _ h=>h) (Or.inr ⟨by rfl,rfl⟩) (by first|trivial|assumption) ?_;simp only[Act.put,List.setIfInBounds_toArray,List.set_cons_zero,List.set_cons_succ];refine take_to 13 (some 18) (v:=undef) rfl rfl (by kernel_rfl) (by kernel_rfl) (by kernel_rfl) (fun _ _ _ h=>h) (Or.inr ⟨by rfl,rfl⟩) (by first|trivial|assumption) ?_;simp only[Act.put,List.setIfInBounds_toArray,List.set_cons_zero,List.set_cons_succ];refine take_to 14 (some 19) (v:=undef) rfl rfl (by kernel_rfl) (by kernel_rfl) (by kernel_rfl) (fun _ _ _ h=>h) (Or.inr ⟨by rfl,rfl⟩) (by first|trivial|assumption) ?_;simp only[Act.put,List.setIfInBounds_toArray,List.set_cons_zero,List.set_cons_succ];refine take_to 15 (some 20) (v:=undef) rfl rfl (by kernel_rfl) (by kernel_rfl) (by kernel_rfl) (fun _ _ _ h=>h) (Or.inr ⟨by rfl,rfl⟩) (by first|trivial|assumption) ?_;simp only[Act.put,List.setIfInBounds_toArray,List.set_cons_zero,List.set_cons_succ];refine take_to 16 (some 21) (v:=undef) rfl rfl (by kernel_rfl) (by kernel_rfl) (by kernel_rfl) (fun _ _ _ h=>h) (Or.inr ⟨by rfl,rfl⟩) (by first|trivial|assumption) ?_;simp only[Act.put,List.setIfInBounds_toArray,List.set_cons_zero,List.set_cons_succ];refine take_to 17 (some 22) (v:=undef) rfl rfl (by kernel_rfl) (by kernel_rfl) (by kernel_rfl) (fun _ _ _ h=>h) (Or.inr ⟨by rfl,rfl⟩) (by first|trivial|assumption) ?_;simp only[Act.put,List.setIfInBounds_toArray,List.set_cons_zero,List.set_cons_succ];refine take_to 18 (some 23) (v:=undef) rfl rfl (by kernel_rfl) (by kernel_rfl) (by kernel_rfl) (fun _ _ _ h=>h) (Or.inr ⟨by rfl,rfl⟩) (by first|trivial|assumption) ?_;simp only[Act.put,List.setIfInBounds_toArray,List.set_cons_zero,List.set_cons_succ];refine take_to 19 (some 24) (v:=undef) rfl rfl (by kernel_rfl) (by kernel_rfl) (by kernel_rfl) (fun _ _ _ h=>h) (Or.inr ⟨by rfl,rfl⟩) (by first|trivial|assumption) ?_;simp only[Act.put,List.setIfInBounds_toArray,List.set_cons_zero,List.set_cons_succ];refine take_to 20 (some 25) (v:=undef) rfl rfl (by kernel_rfl) (by kernel_rfl) (by kernel_rfl) (fun _ _ _ h=>h) (Or.inr ⟨by rfl,rfl⟩) (by first|trivial|assumption) ?_;simp only[Act.put,List.setIfInBounds_toArray,List.set_cons_zero,List.set_cons_succ];refine take_to 21 (some 26) (v:=undef) rfl rfl (by kernel_rfl) (by kernel_rfl) (by kernel_rfl) (fun _ _ _ h=>h) (Or.inr ⟨by rfl,rfl⟩) (by first|trivial|assumption) ?_;simp only[Act.put,List.setIfInBounds_toArray,List.set_cons_zero,List.set_cons_succ];refine take_to 22 (some 27) (v:=undef) rfl rfl (by kernel_rfl) (by kernel_rfl) (by kernel_rfl) (fun _ _ _ h=>h) (Or.inr ⟨by rfl,rfl⟩) (by first|trivial|assumption) ?_;simp only[Act.put,List.setIfInBounds_toArray,List.set_cons_zero,List.set_cons_succ];refine take_to 23 (some 28) (v:=undef) rfl rfl (by kernel_rfl) (by kernel_rfl) (by kernel_rfl) (fun _ _ _ h=>h) (Or.inr ⟨by rfl,rfl⟩) (by first|trivial|assumption) ?_;simp only[Act.put,List.setIfInBounds_toArray,List.set_cons_zero,List.set_cons_succ];refine take_to 24 (some 29) (v:= ?_) rfl rfl (by kernel_rfl) (by kernel_rfl) (by kernel_rfl) (fun _ _ _ h=>h) (Or.inl ⟨by rfl,?_⟩) (by first|trivial|assumption) ?_;rotate_left;focus(intro w hSw;(try dsimp only at hSw);go_simp;(try with_reducible rfl))
  simp only[Act.put,List.setIfInBounds_toArray,List.set_cons_zero,List.set_cons_succ];refine take_to 25 (some 4) (v:= ?_) rfl rfl (by kernel_rfl) (by kernel_rfl) (by kernel_rfl) (fun _ _ _ h=>h) (Or.inl ⟨by rfl,?_⟩) (by first|trivial|assumption) ?_;rotate_left;focus(intro w hSw;(try dsimp only at hSw);go_simp;(try with_reducible rfl))
  simp only[Act.put,List.setIfInBounds_toArray,List.set_cons_zero,List.set_cons_succ];refine wpAnyH_done (by kernel_rfl) ?_ _;go_wp2_with fail;go_ret;exact⟨rfl,H2.out,hm2⟩
end
end Go.Proofs.YtfmiioddhpkdkaaGreat.Cl
namespace Go.Proofs.YtfmiioddhpkdkaaGreat.Cl
open Go.RowKit Go.Proofs.YtfmiioddhpkdkaaGreat.Ara Go.Proofs.YtfmiioddhpkdkaaGreat.Lok
end Go.Proofs.YtfmiioddhpkdkaaGreat.Cl
namespace Go.Proofs.YtfmiioddhpkdkaaGreat.Cl
open Go.RowKit Go.Proofs.YtfmiioddhpkdkaaGreat.Ara Go.Proofs.YtfmiioddhpkdkaaGreat.Lok
theorem frame53 {a:Act}(h:a.tmps.size=53)(hd:a.defers=[]):∃u:Nat→Value,a={tmps:= #[u 0,u 1,u 2,u 3,u 4,u 5,u 6,u 7,u 8,u 9,u 10,u 11,u 12,u 13,u 14,u 15,u 16,u 17,u 18,u 19,u 20,u 21,u 22,u 23,u 24,u 25,u 26,u 27,u 28,u 29,u 30,u 31,u 32,u 33,u 34,u 35,u 36,u 37,u 38,u 39,u 40,u 41,u 42,u 43,u 44,u 45,u 46,u 47,u 48,u 49,u 50,u 51,u 52],defers:=[]}∧∀n,a.tmps.getD n undef=u n:=by
 refine⟨fun n=>a.tmps.getD n undef,?_,fun _=>rfl⟩;have h1:=arr_lit a.tmps h;cases a with
 |mk t d=>
  simp only at hd h1;subst hd;congr 1
theorem infoSp:(Tryz.prog.info? 134).map (fun i=>(i.zero,i.size,i.bytes))=some (some (.agg #[.int .i64 0,.int .i64 0,.int .i64 0,.int .i64 0]),4,32):=by kernel_rfl
theorem first0_succ (i:Nat):first0 (i+1)=first0 i++ [⟨0,(i:Int)+1,0,0⟩]:=by
 unfold first0;rw[List.range_succ,List.map_append];rfl
theorem first0_len (i:Nat):(first0 i).length=i:=by simp[first0]
def lkCells (ga:Nat)(tail:Int)(v:Value):Array Value:= #[.pointer (some ⟨ga,0,none⟩),.int .i64 tail,v]
def NwJ (N ga ha gl:Nat)(tail:Int)(σ:Ar)(w2:World)(a:Act)(W:World):Prop:=
 a.tmps.size=53∧a.defers=[]∧a.tmps.getD 0 undef= .pointer (some ⟨ga,0,none⟩)∧a.tmps.getD 1 undef= .int .i64 N∧a.tmps.getD 6 undef= .int .i64 tail∧a.tmps.getD 8 undef= .pointer (some ⟨gl,0,none⟩)∧a.tmps.getD 30 undef= .int .i64 N∧
  ∃(i:Nat) (v:Value),a.tmps.getD 31 undef= .int .i64 i∧i≤N∧W.heap[gl]? =some (.cells (lkCells ga tail v) 274 (0,0))∧W.ownsRow (gl+1) 134 4 v i ((first0 i).flatMap decSp)∧ArAt W ga ha σ∧Below gl w2 W∧gl+1≤W.heap.size
set_option maxHeartbeats 4000000 in
set_option maxRecDepth 100000 in
theorem new_lk (ga ha:Nat)(σ σ1:Ar)(w:World)(H:ArAt w ga ha σ)(hh:ha<w.heap.size)(n:Nat)(n1:1≤n)(n2:n≤32)(next:Int)(x1:1≤next)(x2:next≤4096)
 (ht:σ.take ((n:Int)+2)=((next,0),σ1)) (ho:σ1.ops≤1000000):
 Calls Tryz.prog 100 #[.pointer (some ⟨ga,0,none⟩),.int .i64 (n:Int)] w fun e w'=>∃gl hs,e= .returned (.tuple #[.pointer (some ⟨gl,0,none⟩),.int .i64 0])∧LkAt w' gl ga ha hs ⟨next⟩ (σ1.op 2 next true ((n:Int)+1)) (first0 n)∧w.heap.size≤gl∧w.heap.size≤hs∧Mod [ga,ha] w w':=by
 have HT:=take_any ga ha σ w H ((n:Int)+2);rw[ht]at HT;replace HT:=Lib.hid HT;have hga:=H.lt;have i1:(1:Int)≤(n:Int):=by omega
 have i2:(n:Int)≤32:=by omega
 have HO:=Lib.hid ho;clear H ht ho;go_enter Tryz.func100,Tryz.ntmps100;go_wp2_with fail;refine HT.out.mono ?_;rintro e w2 ⟨rfl,h2,hm2⟩;have hz2:=hm2.size;have hb0:=below_new w2 (.cells #[.pointer (some ⟨ga,0,none⟩),.int .i64 next,.slice none 0 0] 274);have HK0:=Lib.hid (blk_new w2 (.cells #[.pointer (some ⟨ga,0,none⟩),.int .i64 next,.slice none 0 0] 274));have HA0:=Lib.hid (h2.step hb0);have hz0:w2.heap.size+1≤(w2.alloc (.cells #[.pointer (some ⟨ga,0,none⟩),.int .i64 next,.slice none 0 0] 274)).heap.size:=by simp
 have HB0:=Lib.hid hb0;have HM:=Lib.hid hm2;clear hb0 h2 hm2 HT;go_wp2_with fail;generalize w2.alloc (.cells #[.pointer (some ⟨ga,0,none⟩),.int .i64 next,.slice none 0 0] 274)=W0 at*;generalize hgl:w2.heap.size=gl at*;refine wp_loop (NwJ n ga ha gl next σ1 w2) (fun a' _=>n-(intOf (a'.tmps.getD 31 undef)).toNat) ?_ ?_
 ·exact⟨rfl,rfl,rfl,rfl,rfl,rfl,rfl,0,.slice none 0 0,rfl,Nat.zero_le _,HK0.out,World.ownsRow_nil _ _ _ _,HA0.out,HB0.out,hz0⟩
 ·clear HK0 HA0 HB0 hz0
  rintro a' W ⟨hsz,hdf,s0,s1,s6,s8,s30,i,v,s31,hi,hbk,hown,hat,hb,hz⟩;obtain⟨u,rfl,hu⟩:=frame53 hsz hdf;rw[hu]at s0 s1 s6 s8 s30 s31;simp only[s0,s1,s6,s8,s30,s31];clear hsz hdf s0 s1 s6 s8 s30 s31 hu;by_cases hlt:i<n
  ·obtain⟨A,c,rfl,_⟩:=own_slice hown
   have c2:=blk_cell hbk 2 (by simp[lkCells]);have f2:=blk_free hbk 2;simp only[lkCells,List.getElem_toArray,List.getElem_cons_zero,List.getElem_cons_succ]at c2;have HBk:=Lib.hid hbk;have HAt:=Lib.hid hat;have HB:=Lib.hid hb;have e1:IntKind.i64.wrap ((i:Int)+1)=(i:Int)+1:=IntWalk.i64_in _ (by omega);clear hbk hat hb;go_wp2_with(at_builtin;refine wpList_append1 (.tmp 38) (.tmp 42) 173 134 _ 4 32 rfl rfl Tryz.underlying173 infoSp rfl (by decide) (gl+1) _ _ _ _ _ _ _ _ hown rfl rfl ?cg rfl ?d1 ?d2 ?d3 ?d4 ?ck;case' ck=>intro v' w3 hown3 hb3 _;have q6:=(hb3.cell (p:=⟨gl,2,none⟩) (Nat.lt_succ_self gl)).trans c2;have r6:=(hb3.frozen (p:=⟨gl,2,none⟩) (Nat.lt_succ_self gl)).trans f2;obtain⟨A3,c3,rfl,_,_,_⟩:=own_slice hown3)
   case cg=>first|rfl|simp
   case d1=>simp[Value.oneCell']
   case d2=>simp only[maxLen];omega
   case d3=>omega
   try(case d4=>exact hz)
   have hu:Upd (gl+1) [gl] W (w3.setCell ⟨gl,2,none⟩ (.slice A3 (i+1) c3)):=(Upd.of_below hb3).setCell (.inl (by simp)) _;have hbk2:=blk_set ((hb3.block gl (Nat.lt_succ_self gl)).trans HBk.out) 2 (.slice A3 (i+1) c3)
   have hown4:(w3.setCell ⟨gl,2,none⟩ (.slice A3 (i+1) c3)).ownsRow (gl+1) 134 4 (.slice A3 (i+1) c3) (i+1) ((first0 (i+1)).flatMap decSp):=by
    have:=ownsRow_setCell_below hown3 (a:=⟨gl,2,none⟩) (Nat.lt_succ_self gl) (.slice A3 (i+1) c3);rw[first0_succ,List.flatMap_append];simpa[decSp]using this
   exact⟨⟨rfl,rfl,rfl,rfl,rfl,rfl,rfl,i+1,_,rfl,hlt,hbk2,hown4,HAt.out.upd hu (by omega) (by omega) (by simp;omega) (by simp;omega),HB.out.trans (hu.below (by omega) (by simp)),Nat.le_trans hz hu.size⟩,by simp[intOf];omega⟩
  ·obtain rfl:i=n:=by omega
   rcases hown.2 with⟨_,h0⟩|⟨g,cc,cur,rfl,hg,hgb,_,_,_,htk⟩
   ·omega
   ·have hK:LkAt W gl ga ha g ⟨next⟩ σ1 (first0 i):=by
     refine⟨hat,⟨cur,hgb,by rw[first0_len];exact htk⟩,by rw[first0_len];exact n2,⟨cc,by rw[first0_len];exact hbk⟩,by omega,by omega,by omega,by omega,by omega⟩
    have HK:=Lib.hid hK;have HB:=Lib.hid hb;have e1:IntKind.i64.wrap ((i:Int)+1)=(i:Int)+1:=IntWalk.i64_in _ (by omega);clear hown hat hbk hb hgb htk hK;go_wp2_with fail;refine(store_any ga ha σ1 _ HK.out.1 HO.out next ((i:Int)+1)).mono ?_;rintro e w5 ⟨rfl,h5,hm5⟩;have hK5:=Lib.hid (HK.out.arena h5 hm5);have hm6:Mod [ga,ha] w w5:=(HM.out.trans (Mod.of_below (by rw[hgl];exact HB.out))).trans hm5;clear h5 hm5;go_wp2_with fail;go_ret2;exact⟨gl,g,rfl,hK5.out,by omega,by omega,hm6⟩
end Go.Proofs.YtfmiioddhpkdkaaGreat.Cl
namespace Go.Proofs.YtfmiioddhpkdkaaGreat.Cl
open Go.RowKit Go.Proofs.YtfmiioddhpkdkaaGreat.Ara Go.Proofs.YtfmiioddhpkdkaaGreat.Lok
theorem Inv.num {P:Par}{σ:Ar}{sp:List Sp}{z:Int}{q:List Int}(h:Inv P σ sp z q)(hl:sp.length≤32)(ho:σ.ops≤1000000)(hn:P.tail≤4096):Num P σ sp:=by
 refine⟨⟨h.t1,hn⟩,fun k hk=> ?_,ho,?_⟩
 ·have h1:=h.ar (k:Int) (by omega) (by omega)
  have h2:=h.br (k:Int);rw[spOf_in hk]at h1 h2;omega
 ·have:=h.t1
  have:=h.t2;omega
structure OkP (P:Par)(σ:Ar)(sp:List Sp)(n m:Nat):Prop where
 inv:∃z q,Inv P σ sp z q
 ops:σ.ops≤m+1
 nx:P.tail≤4096
 len:sp.length=n
 small:n≤32
section
variable {P:Par}{σ:Ar}{sp:List Sp}{n m:Nat}(h:OkP P σ sp n m)
include h
theorem OkP.act (kd i:Int):OkP P (doP P σ sp kd i).2.1 (doP P σ sp kd i).2.2 n (m+1):=by
 obtain⟨z,q,hi⟩:=h.inv;obtain⟨z',q',hi'⟩:=do_inv hi kd i;exact⟨⟨z',q',hi'⟩,by have:=do_ops P σ sp kd i;have:=h.ops;omega,h.nx,(do_len P σ sp kd i).trans h.len,h.small⟩
theorem OkP.num (hm:m≤100000):Num P σ sp:=by
 obtain⟨z,q,hi⟩:=h.inv;exact hi.num (by have:=h.len;have:=h.small;omega) (by have:=h.ops;omega) h.nx
theorem OkP.one:cnt (fun s=>s.pc==10) sp n≤1:=by
 obtain⟨z,q,hi⟩:=h.inv;exact hi.one n
theorem OkP.behind (i:Int)(hp:(spOf sp i).pc=10)(ha:(doP P σ sp 3 i).1=false):0<cnt (fun s=>decide (0<s.pc)&&decide (s.pc<10)) sp n:=by
 obtain⟨z,q,hi⟩:=h.inv;rw[←h.len];exact hi.behind i hp ha
end
def first1 (n:Nat):Ar×List Sp:=((⟨zerosW 100,n+2,0,0,0,false⟩:Ar).op 2 1 true ((n:Int)+1),first0 n)
theorem OkP.first (n:Nat)(hn:n≤32):OkP ⟨1⟩ (first1 n).1 (first1 n).2 n 0:=by
 refine⟨⟨_,_,inv_start n hn⟩,?_,by show(1:Int)≤4096;decide,by simp[first1,first0],hn⟩;show(Ar.op _ _ _ _ _).ops≤1;rw[op_ops];show 0+_≤1;split<;>omega
end Go.Proofs.YtfmiioddhpkdkaaGreat.Cl
namespace Go.Proofs.YtfmiioddhpkdkaaGreat
open Go.RowKit Go.Proofs.YtfmiioddhpkdkaaGreat.Ara Go.Proofs.YtfmiioddhpkdkaaGreat.Lok
structure Zr (σ:Ar)(a m:Nat):Prop where
 hl:σ.t≤σ.ws.length
 a1:1≤a
 at_:a+m≤σ.t+1
 z:∀q:Int,(a:Int)≤q→q<(a:Int)+m→σ.get q=0
theorem Zr.has {σ:Ar}{a m:Nat}(h:Zr σ a m){q:Int}(h1:(a:Int)≤q)(h2:q<(a:Int)+m):σ.has q=true:=by
 have:=h.a1;have:=h.at_;simp[Ar.has];omega
namespace Ta
theorem inv_st {σ:Ar}{a:Nat}(h:Zr σ a 1)(most:Int)(m1:1≤most)(m2:most≤1024)(n:Nat):Inv ⟨a,most⟩ σ (zeroS n):=by
 have hs:=zero_spot n;have hp:∀i,(spOf (zeroS n) i).pc=0:=fun i=>by rw[hs];rfl
 have ha:∀i,(spOf (zeroS n) i).a=0:=fun i=>by rw[hs];rfl
 have hb:∀i,(spOf (zeroS n) i).b=0:=fun i=>by rw[hs];rfl
 exact {hl:=h.hl,hw:=h.has (q:=(a:Int)) (Int.le_refl _) (by omega),m1:=m1,m2:=m2,pcs:=fun i=> .inl (hp i),ar:=fun i=>by rw[ha];omega,br:=fun i=>by rw[hb];omega,w1:=fun i e=>by rw[hp]at e;omega,w2:=fun i e=>by rw[hp]at e;omega,hold:=fun i e=>by unfold holds at e;rw[hp]at e;omega,free:=fun _=>h.z (a:Int) (Int.le_refl _) (by omega)}
theorem ok_st {σ:Ar}{a:Nat}(h:Zr σ a 1)(most:Int)(m1:1≤most)(m2:most≤1024)(n m:Nat)(ho:σ.ops≤m+1):OkP ⟨a,most⟩ σ (zeroS n) n m:=⟨inv_st h most m1 m2 n,ho,by simp[zeroS]⟩
end Ta
namespace Tk
theorem inv_st {σ:Ar}{a:Nat}(h:Zr σ a 2)(n:Nat):Inv ⟨a⟩ σ (Ta.zeroS n) 0 0:=by
 have hs:=zero_spot n
 have hq:∀i,¬inq (spOf (List.replicate n sp0) i):=by
  intro i;rw[hs];unfold inq sp0;simp
 have hz:=h.z;have h1:=h.a1;have h2:=h.at_;refine {p1:=Int.le_refl _,p2:=by show(1:Int)≤32;decide,n1:=by show(1:Int)≤(a:Int);omega,le:=Nat.le_refl _,hl:=h.hl,n2:=by show(a:Int)+1≤(σ.t:Int);omega,gT:=hz (a:Int) (Int.le_refl _) (by omega),srv:= ?_,low:=fun x x0 x1=> ?_,pcs:=fun i=> ?_,tick:=fun i hi=>absurd hi (hq i),hold:=fun i hi=>absurd (Or.inr hi) (hq i),inj:=fun i j hi=>absurd hi (hq i),all:=fun t t0 t1=> ?_,rng:=fun i=> ?_}
 ·rw[place_eq];exact hz ((a:Int)+1) (by omega) (by omega)
 ·have x1':x<1:=x1
  have:σ.get ((a:Int)+1+x)=0:=hz _ (by omega) (by omega);show σ.get ((a:Int)+1+x)≤_;rw[this];exact Int.le_refl _
 ·left;show(spOf (List.replicate n sp0) i).pc=0;rw[hs];rfl
 ·omega
 ·have e:spOf (Ta.zeroS n) i=sp0:=hs i
  rw[e];exact⟨Int.le_refl _,Int.le_refl _⟩
theorem ok_st {σ:Ar}{a:Nat}(h:Zr σ a 2)(n m:Nat)(ho:σ.ops≤m+1)(ha:a≤4096):OkP ⟨a⟩ σ (Ta.zeroS n) n m:=⟨⟨0,0,inv_st h n,Nat.zero_le _⟩,ho,by show(a:Int)≤4096;omega,by simp[Ta.zeroS]⟩
end Tk
namespace Pt
theorem inv_st {σ:Ar}{a p:Nat}(h:Zr σ a (1+p))(p1:1≤p)(p2:p≤32)(n:Nat):Inv ⟨a,p⟩ (σ.op 2 (place ⟨a,p⟩ 0) true 1) (zeroS n) 0 0:=by
 have h1:=h.a1;have h2:=h.at_;obtain⟨x,x0,x1,e⟩:=place_in (P:=⟨a,p⟩) (by show(1:Int)≤(p:Int);omega) 0;simp only at x1 e;have hh:σ.has (place ⟨a,p⟩ 0)=true:=by rw[e];exact h.has (by omega) (by omega)
 have hg:=fun q=>get_op σ h.hl 2 (place ⟨a,p⟩ 0) 1 true q;simp only[hh,true_and]at hg;have hs:=zero_spot n
 have hq:∀i,¬inq (spOf (List.replicate n sp0) i):=by
  intro i;rw[hs];unfold inq sp0;simp
 refine {p1:=by show(1:Int)≤(p:Int);omega,p2:=by show(p:Int)≤32;omega,n1:=by show(1:Int)≤(a:Int);omega,le:=Nat.le_refl _,hl:= ?_,n2:= ?_,gT:= ?_,srv:= ?_,low:= ?_,pcs:=fun i=> ?_,tick:=fun i hi=>absurd hi (hq i),hold:=fun i hi=>absurd (Or.inr hi) (hq i),inj:=fun i j hi=>absurd hi (hq i),all:=fun t t0 t1=> ?_,rng:=fun i=> ?_}
 ·rw[op_t,op_len];exact h.hl
 ·rw[op_t];show(a:Int)+(p:Int)≤(σ.t:Int);omega
 ·rw[hg,if_neg (by rw[e];show¬(a:Int)=(a:Int)+1+x;omega)]
  exact h.z (a:Int) (Int.le_refl _) (by omega)
 ·rw[hg,if_pos (show place ⟨a,p⟩ ((0:Nat):Int)=place ⟨a,p⟩ 0 from rfl)];rfl
 ·intro y y0 y1
  have y1':y<(p:Int):=y1;rw[hg];split
  ·simp
  ·show σ.get ((a:Int)+1+y)≤_
   rw[h.z _ (by omega) (by omega)];decide
 ·left;show(spOf (List.replicate n sp0) i).pc=0;rw[hs];rfl
 ·omega
 ·have e:spOf (zeroS n) i=sp0:=hs i
  rw[e];exact⟨Int.le_refl _,Int.le_refl _⟩
theorem ok_st {σ:Ar}{a p:Nat}(h:Zr σ a (1+p))(p1:1≤p)(p2:p≤32)(n m:Nat)(ho:σ.ops≤m)(ha:a≤4096):OkP ⟨a,p⟩ (σ.op 2 (place ⟨a,p⟩ 0) true 1) (zeroS n) n m:=by
 refine⟨⟨0,0,inv_st h p1 p2 n,Nat.zero_le _⟩,?_,by show(a:Int)≤4096;omega,by simp[zeroS]⟩;rw[op_ops];split<;>omega
end Pt
namespace Mc
theorem inv_st {σ:Ar}{a n:Nat}(h:Zr σ a (1+2*n)):Inv ⟨a⟩ σ (zeroS n) []:=by
 have h1:=h.a1;have h2:=h.at_;have hp:∀i,(spOf (List.replicate n sp0) i).pc=0:=fun i=>by rw[zero_spot];rfl
 have hq:∀i,¬inq (spOf (List.replicate n sp0) i):=by
  intro i h;have:=hp i;unfold inq outs at h;omega
 refine {hl:=h.hl,t1:=by show(1:Int)≤(a:Int);omega,t2:= ?_,pcs:=fun i=> .inl (hp i),ar:=fun i=> ?_,mem:=fun i=>⟨fun h=>by simp at h,fun h=>absurd h (hq i)⟩,nd:=List.nodup_nil,first:=fun i h=>absurd (.inr (.inr h)) (hq i),gT:=h.z (a:Int) (Int.le_refl _) (by omega),ch:=trivial,hd:=fun i h=>by simp at h,p2:=fun i h=> ?_,p3:=fun i h=> ?_,p13:=fun i h=> ?_,pa:=fun i h=> ?_,p14:=fun i h=> ?_}
 ·show(a:Int)+2*((List.replicate n sp0).length:Int)≤_;rw[List.length_replicate];omega
 ·have e:spOf (zeroS n) i=sp0:=zero_spot n i
  rw[e];exact⟨Int.le_refl _,by show(0:Int)≤_;omega⟩
 all_goals(have h5:(spOf (zeroS n) i).pc=0:=hp i;exfalso;omega)
theorem ok_st {σ:Ar}{a n:Nat}(h:Zr σ a (1+2*n))(hn:n≤32)(m:Nat)(ho:σ.ops≤m+1)(ha:a≤4096):OkP ⟨a⟩ σ (zeroS n) n m:=⟨⟨_,inv_st h⟩,ho,by show(a:Int)≤4096;omega,by simp[zeroS],hn⟩
end Mc
namespace Cl
theorem inv_st {σ:Ar}{a n:Nat}(h:Zr σ a (n+2))(hn:n≤32):Inv ⟨a⟩ (σ.op 2 (a:Int) true ((n:Int)+1)) (first0 n) ((n:Int)+1) []:=by
 have h1:=h.a1;have h2:=h.at_;have hh:σ.has (a:Int)=true:=h.has (Int.le_refl _) (by omega);have hg:=fun q=>get_op σ h.hl 2 (a:Int) ((n:Int)+1) true q;simp only[hh,true_and]at hg;have hl:(first0 n).length=n:=by simp[first0]
 have hp:∀i,(spOf (first0 n) i).pc=0:=by
  intro i;rw[first0_spot];split<;>rfl
 have ha:∀i:Int,0≤i→i<n→(spOf (first0 n) i).a=i+1:=by
  intro i i0 i1;rw[first0_spot,if_pos ⟨i0,i1⟩]
 refine {hl:= ?_,t1:=by show(1:Int)≤(a:Int);omega,t2:= ?_,zr:= ?_,ar:= ?_,br:= ?_,pcs:=fun i=> .inl (hp i),mem:= ?_,nd:=List.nodup_nil,first:= ?_,inj:= ?_,nz:= ?_,ch:=trivial,gz:= ?_,g1:= ?_,gT:= ?_}
 ·rw[op_t,op_len];exact h.hl
 ·rw[op_t,hl];show(a:Int)+(n:Int)+1≤(σ.t:Int);omega
 ·rw[hl];omega
 ·intro i i0 i1;rw[hl]at i1⊢;rw[ha i i0 i1];omega
 ·intro i;rw[hl,first0_spot];split
  ·simp only;omega
  ·simp only[sp0];omega
 ·intro i
  refine⟨fun h=>by simp at h,fun h=> ?_⟩;have:=hp i;unfold inq inn at h;omega
 ·intro i h
  have:=hp i;unfold inn at h;omega
 ·intro i j i0 i1 j0 j1 e
  rw[hl]at i1 j1;rw[ha i i0 i1,ha j j0 j1]at e;omega
 ·intro i i0 i1
  rw[hl]at i1;rw[ha i i0 i1];omega
 ·rw[hg,if_neg (by simp[box];omega)]
  exact h.z _ (by show(a:Int)≤(a:Int)+((n:Int)+1);omega) (by show(a:Int)+((n:Int)+1)<_;omega)
 ·intro i h
  have:=hp i;unfold inq inn at h;omega
 ·rw[hg,if_pos rfl];rfl
theorem ok_st {σ:Ar}{a n:Nat}(h:Zr σ a (n+2))(hn:n≤32)(m:Nat)(ho:σ.ops≤m)(ha:a≤4096):OkP ⟨a⟩ (σ.op 2 (a:Int) true ((n:Int)+1)) (first0 n) n m:=by
 refine⟨⟨_,_,inv_st h hn⟩,?_,by show(a:Int)≤4096;omega,by simp[first0],hn⟩;rw[op_ops];split<;>omega
end Cl
end Go.Proofs.YtfmiioddhpkdkaaGreat
namespace Go.Proofs.YtfmiioddhpkdkaaGreat.Fl
open Go.RowKit Go.Proofs.YtfmiioddhpkdkaaGreat.Ara Go.Proofs.YtfmiioddhpkdkaaGreat.Lok
section
variable(gf:Nat)(kind:Int)(hk:kind≠0)(T:TypeId)(v r:Value)(F:FuncId)(w:World)
include hk
set_option maxRecDepth 100000 in
theorem Ask_gen (hc:∀a W,(callFunc F a).run Tryz.prog W= .ok (.enter F a) W)(hm:∀W,(method 456 T v "Ask").run Tryz.prog W= .ok (F,r) W)(H:FlB w gf kind T v)(i:Int)(b:Bool)(R:World→Prop)(HC:Calls Tryz.prog F #[r,.int .i64 i] w fun e w'=>e= .returned (.bool b)∧R w'):Calls Tryz.prog 171 #[.pointer (some ⟨gf,0,none⟩),.int .i64 i] w fun e w'=>e= .returned (.bool b)∧R w':=by
 have HM:=Lib.hid (made_yes gf kind T v w H hk);have c1:=blk_cell H 1 (by simp);simp only[List.getElem_toArray,List.getElem_cons_succ,List.getElem_cons_zero]at c1;replace HC:=Lib.hid HC;clear H;go_enter Tryz.func171,Tryz.ntmps171;go_wp2_with fail;refine(HM.out).mono ?_;rintro e wx ⟨rfl,hwx⟩;obtain rfl:=hwx.symm;go_wp2_with fail;refine HC.out.mono ?_;rintro e w2 ⟨rfl,h2⟩;replace h2:=Lib.hid h2;go_wp2_with fail;go_ret;exact⟨rfl,h2.out⟩
set_option maxRecDepth 100000 in
theorem Leave_gen (hc:∀a W,(callFunc F a).run Tryz.prog W= .ok (.enter F a) W)(hm:∀W,(method 456 T v "Leave").run Tryz.prog W= .ok (F,r) W)(H:FlB w gf kind T v)(i:Int)(b:Bool)(R:World→Prop)(HC:Calls Tryz.prog F #[r,.int .i64 i] w fun e w'=>e= .returned (.bool b)∧R w'):Calls Tryz.prog 178 #[.pointer (some ⟨gf,0,none⟩),.int .i64 i] w fun e w'=>e= .returned (.bool b)∧R w':=by
 have HM:=Lib.hid (made_yes gf kind T v w H hk);have c1:=blk_cell H 1 (by simp);simp only[List.getElem_toArray,List.getElem_cons_succ,List.getElem_cons_zero]at c1;replace HC:=Lib.hid HC;clear H;go_enter Tryz.func178,Tryz.ntmps178;go_wp2_with fail;refine(HM.out).mono ?_;rintro e wx ⟨rfl,hwx⟩;obtain rfl:=hwx.symm;go_wp2_with fail;refine HC.out.mono ?_;rintro e w2 ⟨rfl,h2⟩;replace h2:=Lib.hid h2;go_wp2_with fail;go_ret;exact⟨rfl,h2.out⟩
set_option maxRecDepth 100000 in
theorem Step_gen (hc:∀a W,(callFunc F a).run Tryz.prog W= .ok (.enter F a) W)(hm:∀W,(method 456 T v "Step").run Tryz.prog W= .ok (F,r) W)(H:FlB w gf kind T v)(i:Int)(b:Bool)(R:World→Prop)(HC:Calls Tryz.prog F #[r,.int .i64 i] w fun e w'=>e= .returned (.bool b)∧R w'):Calls Tryz.prog 175 #[.pointer (some ⟨gf,0,none⟩),.int .i64 i] w fun e w'=>e= .returned (.bool b)∧R w':=by
 have HM:=Lib.hid (made_yes gf kind T v w H hk);have c1:=blk_cell H 1 (by simp);simp only[List.getElem_toArray,List.getElem_cons_succ,List.getElem_cons_zero]at c1;replace HC:=Lib.hid HC;clear H;go_enter Tryz.func175,Tryz.ntmps175;go_wp2_with fail;refine(HM.out).mono ?_;rintro e wx ⟨rfl,hwx⟩;obtain rfl:=hwx.symm;go_wp2_with fail;refine HC.out.mono ?_;rintro e w2 ⟨rfl,h2⟩;replace h2:=Lib.hid h2;go_wp2_with fail;go_ret;exact⟨rfl,h2.out⟩
set_option maxRecDepth 100000 in
theorem Alone_gen (hc:∀a W,(callFunc F a).run Tryz.prog W= .ok (.enter F a) W)(hm:∀W,(method 456 T v "Alone").run Tryz.prog W= .ok (F,r) W)(H:FlB w gf kind T v)(i:Int)(b:Bool)(R:World→Prop)(HC:Calls Tryz.prog F #[r,.int .i64 i] w fun e w'=>e= .returned (.bool b)∧R w'):Calls Tryz.prog 177 #[.pointer (some ⟨gf,0,none⟩),.int .i64 i] w fun e w'=>e= .returned (.bool b)∧R w':=by
 have HM:=Lib.hid (made_yes gf kind T v w H hk);have c1:=blk_cell H 1 (by simp);simp only[List.getElem_toArray,List.getElem_cons_succ,List.getElem_cons_zero]at c1;replace HC:=Lib.hid HC;clear H;go_enter Tryz.func177,Tryz.ntmps177;go_wp2_with fail;refine(HM.out).mono ?_;rintro e wx ⟨rfl,hwx⟩;obtain rfl:=hwx.symm;go_wp2_with fail;refine HC.out.mono ?_;rintro e w2 ⟨rfl,h2⟩;replace h2:=Lib.hid h2;go_wp2_with fail;go_ret;exact⟨rfl,h2.out⟩
set_option maxRecDepth 100000 in
theorem Spot_gen (hc:∀a W,(callFunc F a).run Tryz.prog W= .ok (.enter F a) W)(hm:∀W,(method 456 T v "Spot").run Tryz.prog W= .ok (F,r) W)(H:FlB w gf kind T v)(i:Int)(s:Sp)(HC:∀W,Below w.heap.size w W→Calls Tryz.prog F #[r,.int .i64 i] W fun e w'=>e= .returned (.agg #[.int .i64 s.pc,.int .i64 s.a,.int .i64 s.b,.int .i64 s.c])∧Below W.heap.size W w'):Calls Tryz.prog 290 #[.pointer (some ⟨gf,0,none⟩),.int .i64 i] w fun e w'=>e= .returned (.agg #[.int .i64 s.pc,.int .i64 s.a,.int .i64 s.b,.int .i64 s.c])∧Below w.heap.size w w':=by
 have hbn:=below_new w (.cells #[.int .i64 0,.int .i64 0,.int .i64 0,.int .i64 0] 134);have hbk:=blk_new w (.cells #[.int .i64 0,.int .i64 0,.int .i64 0,.int .i64 0] 134);have hz:w.heap.size<(w.alloc (.cells #[.int .i64 0,.int .i64 0,.int .i64 0,.int .i64 0] 134)).heap.size:=by simp
 have HB:=Lib.hid hbk;clear hbk;have H1:=H.same hbn;have HM:=Lib.hid (made_yes gf kind T v _ H1 hk);have c1:=blk_cell H1 1 (by simp);simp only[List.getElem_toArray,List.getElem_cons_succ,List.getElem_cons_zero]at c1;replace HC:=Lib.hid (HC _ hbn);obtain⟨xp,xa,xb,xc⟩:=s;simp only at HC⊢;clear H H1;go_enter Tryz.func290,Tryz.ntmps290;go_wp2_with fail;refine(HM.out).mono ?_;rintro e wx ⟨rfl,hwx⟩;obtain rfl:=hwx.symm;go_wp2_with fail;refine HC.out.mono ?_;rintro e w2 ⟨rfl,hb2⟩;have hbk2:=(Mod.of_below (S:=[]) hb2).blk HB.out (by simp);have d0:=blk_cell hbk2 0 (by simp);have d1:=blk_cell hbk2 1 (by simp);have d2:=blk_cell hbk2 2 (by simp);have d3:=blk_cell hbk2 3 (by simp);have f0:=blk_free hbk2 0;have f1:=blk_free hbk2 1;have f2:=blk_free hbk2 2;have f3:=blk_free hbk2 3;simp only[List.getElem_toArray,List.getElem_cons_zero,List.getElem_cons_succ]at d0 d1 d2 d3;have hB:=Lib.hid (hbn.trans (hb2.mono hbn.size));have k0:=blk_set hbk2 0 (.int .i64 (xp));have k1:=blk_set k0 1 (.int .i64 (xa));have k2:=blk_set k1 2 (.int .i64 (xb));have k3:=blk_set k2 3 (.int .i64 (xc));have g0:=blk_cell k0 0 (by simp);have g1:=blk_cell k1 1 (by simp);have g2:=blk_cell k2 2 (by simp);have g3:=blk_cell k3 3 (by simp);simp at g0 g1 g2 g3;clear hbk2 hb2 k0 k1 k2 k3;go_wp2_with fail;exact bodyPost_ret (v:= .agg #[.int .i64 (xp),.int .i64 (xa),.int .i64 (xb),.int .i64 (xc)]) (by simp[results,Tryz.results290,go_sem,g0,g1,g2,g3]) rfl ⟨rfl,by first|exact hB.out|exact(((((hB.out.setCell (Nat.le_refl _) _).setCell (Nat.le_refl _) _).setCell (Nat.le_refl _) _).setCell (Nat.le_refl _) _))⟩
end
theorem c2_Ask (a:Array Value)(w:World):(callFunc 344 a).run Tryz.prog w= .ok (.enter 344 a) w:=by kernel_rfl
theorem m2_Ask (gl:Nat)(w:World):(method 456 226 (.pointer (some ⟨gl,0,none⟩)) "Ask").run Tryz.prog w= .ok (344,.pointer (some ⟨gl,0,none⟩)) w:=by kernel_rfl
theorem c2_Leave (a:Array Value)(w:World):(callFunc 345 a).run Tryz.prog w= .ok (.enter 345 a) w:=by kernel_rfl
theorem m2_Leave (gl:Nat)(w:World):(method 456 226 (.pointer (some ⟨gl,0,none⟩)) "Leave").run Tryz.prog w= .ok (345,.pointer (some ⟨gl,0,none⟩)) w:=by kernel_rfl
theorem c2_Step (a:Array Value)(w:World):(callFunc 348 a).run Tryz.prog w= .ok (.enter 348 a) w:=by kernel_rfl
theorem m2_Step (gl:Nat)(w:World):(method 456 226 (.pointer (some ⟨gl,0,none⟩)) "Step").run Tryz.prog w= .ok (348,.pointer (some ⟨gl,0,none⟩)) w:=by kernel_rfl
theorem c2_Alone (a:Array Value)(w:World):(callFunc 343 a).run Tryz.prog w= .ok (.enter 343 a) w:=by kernel_rfl
theorem m2_Alone (gl:Nat)(w:World):(method 456 226 (.pointer (some ⟨gl,0,none⟩)) "Alone").run Tryz.prog w= .ok (343,.pointer (some ⟨gl,0,none⟩)) w:=by kernel_rfl
theorem c2_Spot (a:Array Value)(w:World):(callFunc 347 a).run Tryz.prog w= .ok (.enter 347 a) w:=by kernel_rfl
theorem m2_Spot (gl:Nat)(w:World):(method 456 226 (.pointer (some ⟨gl,0,none⟩)) "Spot").run Tryz.prog w= .ok (347,.pointer (some ⟨gl,0,none⟩)) w:=by kernel_rfl
theorem c3_Ask (a:Array Value)(w:World):(callFunc 356 a).run Tryz.prog w= .ok (.enter 356 a) w:=by kernel_rfl
theorem m3_Ask (gl:Nat)(w:World):(method 456 229 (.pointer (some ⟨gl,0,none⟩)) "Ask").run Tryz.prog w= .ok (356,.pointer (some ⟨gl,0,none⟩)) w:=by kernel_rfl
theorem c3_Leave (a:Array Value)(w:World):(callFunc 357 a).run Tryz.prog w= .ok (.enter 357 a) w:=by kernel_rfl
theorem m3_Leave (gl:Nat)(w:World):(method 456 229 (.pointer (some ⟨gl,0,none⟩)) "Leave").run Tryz.prog w= .ok (357,.pointer (some ⟨gl,0,none⟩)) w:=by kernel_rfl
theorem c3_Step (a:Array Value)(w:World):(callFunc 360 a).run Tryz.prog w= .ok (.enter 360 a) w:=by kernel_rfl
theorem m3_Step (gl:Nat)(w:World):(method 456 229 (.pointer (some ⟨gl,0,none⟩)) "Step").run Tryz.prog w= .ok (360,.pointer (some ⟨gl,0,none⟩)) w:=by kernel_rfl
theorem c3_Alone (a:Array Value)(w:World):(callFunc 355 a).run Tryz.prog w= .ok (.enter 355 a) w:=by kernel_rfl
theorem m3_Alone (gl:Nat)(w:World):(method 456 229 (.pointer (some ⟨gl,0,none⟩)) "Alone").run Tryz.prog w= .ok (355,.pointer (some ⟨gl,0,none⟩)) w:=by kernel_rfl
theorem c3_Spot (a:Array Value)(w:World):(callFunc 359 a).run Tryz.prog w= .ok (.enter 359 a) w:=by kernel_rfl
theorem m3_Spot (gl:Nat)(w:World):(method 456 229 (.pointer (some ⟨gl,0,none⟩)) "Spot").run Tryz.prog w= .ok (359,.pointer (some ⟨gl,0,none⟩)) w:=by kernel_rfl
theorem c4_Ask (a:Array Value)(w:World):(callFunc 367 a).run Tryz.prog w= .ok (.enter 367 a) w:=by kernel_rfl
theorem m4_Ask (gl:Nat)(w:World):(method 456 232 (.pointer (some ⟨gl,0,none⟩)) "Ask").run Tryz.prog w= .ok (367,.pointer (some ⟨gl,0,none⟩)) w:=by kernel_rfl
theorem c4_Leave (a:Array Value)(w:World):(callFunc 368 a).run Tryz.prog w= .ok (.enter 368 a) w:=by kernel_rfl
theorem m4_Leave (gl:Nat)(w:World):(method 456 232 (.pointer (some ⟨gl,0,none⟩)) "Leave").run Tryz.prog w= .ok (368,.pointer (some ⟨gl,0,none⟩)) w:=by kernel_rfl
theorem c4_Step (a:Array Value)(w:World):(callFunc 371 a).run Tryz.prog w= .ok (.enter 371 a) w:=by kernel_rfl
theorem m4_Step (gl:Nat)(w:World):(method 456 232 (.pointer (some ⟨gl,0,none⟩)) "Step").run Tryz.prog w= .ok (371,.pointer (some ⟨gl,0,none⟩)) w:=by kernel_rfl
theorem c4_Alone (a:Array Value)(w:World):(callFunc 366 a).run Tryz.prog w= .ok (.enter 366 a) w:=by kernel_rfl
theorem m4_Alone (gl:Nat)(w:World):(method 456 232 (.pointer (some ⟨gl,0,none⟩)) "Alone").run Tryz.prog w= .ok (366,.pointer (some ⟨gl,0,none⟩)) w:=by kernel_rfl
theorem c4_Spot (a:Array Value)(w:World):(callFunc 370 a).run Tryz.prog w= .ok (.enter 370 a) w:=by kernel_rfl
theorem m4_Spot (gl:Nat)(w:World):(method 456 232 (.pointer (some ⟨gl,0,none⟩)) "Spot").run Tryz.prog w= .ok (370,.pointer (some ⟨gl,0,none⟩)) w:=by kernel_rfl
theorem c5_Ask (a:Array Value)(w:World):(callFunc 380 a).run Tryz.prog w= .ok (.enter 380 a) w:=by kernel_rfl
theorem m5_Ask (gl:Nat)(w:World):(method 456 235 (.pointer (some ⟨gl,0,none⟩)) "Ask").run Tryz.prog w= .ok (380,.pointer (some ⟨gl,0,none⟩)) w:=by kernel_rfl
theorem c5_Leave (a:Array Value)(w:World):(callFunc 381 a).run Tryz.prog w= .ok (.enter 381 a) w:=by kernel_rfl
theorem m5_Leave (gl:Nat)(w:World):(method 456 235 (.pointer (some ⟨gl,0,none⟩)) "Leave").run Tryz.prog w= .ok (381,.pointer (some ⟨gl,0,none⟩)) w:=by kernel_rfl
theorem c5_Step (a:Array Value)(w:World):(callFunc 384 a).run Tryz.prog w= .ok (.enter 384 a) w:=by kernel_rfl
theorem m5_Step (gl:Nat)(w:World):(method 456 235 (.pointer (some ⟨gl,0,none⟩)) "Step").run Tryz.prog w= .ok (384,.pointer (some ⟨gl,0,none⟩)) w:=by kernel_rfl
theorem c5_Alone (a:Array Value)(w:World):(callFunc 379 a).run Tryz.prog w= .ok (.enter 379 a) w:=by kernel_rfl
theorem m5_Alone (gl:Nat)(w:World):(method 456 235 (.pointer (some ⟨gl,0,none⟩)) "Alone").run Tryz.prog w= .ok (379,.pointer (some ⟨gl,0,none⟩)) w:=by kernel_rfl
theorem c5_Spot (a:Array Value)(w:World):(callFunc 383 a).run Tryz.prog w= .ok (.enter 383 a) w:=by kernel_rfl
theorem m5_Spot (gl:Nat)(w:World):(method 456 235 (.pointer (some ⟨gl,0,none⟩)) "Spot").run Tryz.prog w= .ok (383,.pointer (some ⟨gl,0,none⟩)) w:=by kernel_rfl
theorem c1_Ask (a:Array Value)(w:World):(callFunc 336 a).run Tryz.prog w= .ok (.enter 336 a) w:=by kernel_rfl
theorem m1_Ask (gl:Nat)(w:World):(method 456 225 (.agg #[.pointer (some ⟨gl,0,none⟩)]) "Ask").run Tryz.prog w= .ok (336,.pointer (some ⟨gl,0,none⟩)) w:=by kernel_rfl
theorem c1_Leave (a:Array Value)(w:World):(callFunc 337 a).run Tryz.prog w= .ok (.enter 337 a) w:=by kernel_rfl
theorem m1_Leave (gl:Nat)(w:World):(method 456 225 (.agg #[.pointer (some ⟨gl,0,none⟩)]) "Leave").run Tryz.prog w= .ok (337,.pointer (some ⟨gl,0,none⟩)) w:=by kernel_rfl
theorem c1_Step (a:Array Value)(w:World):(callFunc 340 a).run Tryz.prog w= .ok (.enter 340 a) w:=by kernel_rfl
theorem m1_Step (gl:Nat)(w:World):(method 456 225 (.agg #[.pointer (some ⟨gl,0,none⟩)]) "Step").run Tryz.prog w= .ok (340,.pointer (some ⟨gl,0,none⟩)) w:=by kernel_rfl
theorem c1_Spot (a:Array Value)(w:World):(callFunc 339 a).run Tryz.prog w= .ok (.enter 339 a) w:=by kernel_rfl
theorem m1_Spot (gl:Nat)(w:World):(method 456 225 (.agg #[.pointer (some ⟨gl,0,none⟩)]) "Spot").run Tryz.prog w= .ok (339,.pointer (some ⟨gl,0,none⟩)) w:=by kernel_rfl
theorem c1_Alone (a:Array Value)(w:World):(callFunc 342 a).run Tryz.prog w= .ok (.enter 342 a) w:=by kernel_rfl
theorem m1_Alone (gl:Nat)(w:World):(method 456 225 (.agg #[.pointer (some ⟨gl,0,none⟩)]) "Alone").run Tryz.prog w= .ok (342,.agg #[.pointer (some ⟨gl,0,none⟩)]) w:=by kernel_rfl
end Go.Proofs.YtfmiioddhpkdkaaGreat.Fl
