/- Merged texts: Rw7, Rwb, WrM, Wq1, Wqc, Wq2, SpQ. -/
import Derived.Test.YtfmiioddhpkdkaaGreatWz30
import Derived.Maps.OwnSet
set_option linter.unusedVariables false
set_option linter.unusedSimpArgs false
set_option maxRecDepth 100000
set_option maxHeartbeats 8000000
namespace Go.Proofs.YtfmiioddhpkdkaaGreat.Rw
open Go.RowKit Ara Lok Ga Lk Wr
section
variable {L:Nat}{W:World}{c:Rc}{P:Rp}{x:Ar×List Sp}
theorem quiet_w (K:RdA 261 L W c P x)(ho:x.1.ops≤1000000)(hz:x.1.get P.fl=0):Calls Tryz.prog 335 #[.pointer (some ⟨c.gk,0,none⟩)] W fun e w'=>e= .returned (.bool true)∧RdA 261 L w' c P (x.1.op 1 P.fl false 0,x.2)∧Mod [c.ga,c.ha,c.hs] W w':=by
 have HB:=Lib.hid (Below.drew (Below.refl W.heap.size W));have HK3:=Lib.hid K.drew;clear K;go_enter Tryz.func335,Tryz.ntmps335;go_upto_region 1 with fail;have SW:W.drew.cell? ⟨c.gk,0,none⟩=some (.pointer (some ⟨c.ga,0,none⟩))∧W.drew.cell? ⟨c.gk,4,none⟩=some (.int .i64 P.fl):=⟨HK3.out.cells.1.1,HK3.out.cells.2.1⟩;refine wp_region_held_drew (S:=fun V=>V.cell? ⟨c.gk,0,none⟩=some (.pointer (some ⟨c.ga,0,none⟩))∧V.cell? ⟨c.gk,4,none⟩=some (.int .i64 P.fl)) (by kernel_rfl) SW (fun hHeld=> ?_);generalize W.drew=W3 at*;have hLd:=load_any c.ga c.ha x.1 W3 HK3.out.ar ho P.fl;rw[hz]at hLd;have HLd:=Lib.hid hLd;clear hLd;refine take_to 0 (some 3) (v:= ?_) rfl rfl (by kernel_rfl) (by kernel_rfl) (by kernel_rfl) (fun _ _ _ h=>h) (Or.inl ⟨by rfl,?_⟩) (by first|trivial|assumption) ?_;rotate_left;focus(intro w hSw;(try dsimp only at hSw);go_simp;(try with_reducible rfl))
 simp only[Act.put,List.setIfInBounds_toArray,List.set_cons_zero,List.set_cons_succ];refine take_to 1 (some 4) (v:= ?_) rfl rfl (by kernel_rfl) (by kernel_rfl) (by kernel_rfl) (fun _ _ _ h=>h) (Or.inl ⟨by rfl,?_⟩) (by first|trivial|assumption) ?_;rotate_left;focus(intro w hSw;(try dsimp only at hSw);go_simp;(try with_reducible rfl))
 simp only[Act.put,List.setIfInBounds_toArray,List.set_cons_zero,List.set_cons_succ];refine take_to 2 (some 5) (v:= ?_) rfl rfl (by kernel_rfl) (by kernel_rfl) (by kernel_rfl) (fun _ _ _ h=>h) (Or.inl ⟨by rfl,?_⟩) (by first|trivial|assumption) ?_;rotate_left;focus(intro w hSw;(try dsimp only at hSw);go_simp;(try with_reducible rfl))
 simp only[Act.put,List.setIfInBounds_toArray,List.set_cons_zero,List.set_cons_succ];refine take_to 3 (some 6) (v:= ?_) rfl rfl (by kernel_rfl) (by kernel_rfl) (by kernel_rfl) (fun _ _ _ h=>h) (Or.inl ⟨by rfl,?_⟩) (by first|trivial|assumption) ?_;rotate_left;focus(intro w hSw;(try dsimp only at hSw);go_simp;(try with_reducible rfl))
 simp only[Act.put,List.setIfInBounds_toArray,List.set_cons_zero,List.set_cons_succ];refine take_to 4 (some 7) (v:= ?_) rfl rfl (by kernel_rfl) (by kernel_rfl) (by kernel_rfl) (fun _ _ _ h=>h) (Or.inl ⟨by rfl,?_⟩) (by first|trivial|assumption) ?_;rotate_left;focus(intro w hSw;(try dsimp only at hSw);go_simp;(try with_reducible rfl))
 simp only[Act.put,List.setIfInBounds_toArray,List.set_cons_zero,List.set_cons_succ];refine take_to 5 (some 8) (v:= ?_) rfl rfl (by kernel_rfl) (by kernel_rfl) (by kernel_rfl) (fun _ _ _ h=>h) (Or.inl ⟨by rfl,?_⟩) (by first|trivial|assumption) ?_;rotate_left;focus(intro w hSw;(try dsimp only at hSw);go_simp;(try with_reducible rfl))
 simp only[Act.put,List.setIfInBounds_toArray,List.set_cons_zero,List.set_cons_succ];refine take_to 6 (some 9) (v:= ?_) rfl rfl (by kernel_rfl) (by kernel_rfl) (by kernel_rfl) (fun _ _ _ h=>h) (Or.inl ⟨by rfl,?_⟩) (by first|trivial|assumption) ?_;rotate_left;focus(intro w hSw;(try dsimp only at hSw);go_simp;(try with_reducible rfl))
 simp only[Act.put,List.setIfInBounds_toArray,List.set_cons_zero,List.set_cons_succ];refine take_to 7 (some 10) (v:= ?_) rfl rfl (by kernel_rfl) (by kernel_rfl) (by kernel_rfl) (fun _ _ _ h=>h) (Or.inl ⟨by rfl,?_⟩) (by first|trivial|assumption) ?_;rotate_left;focus(intro w hSw;(try dsimp only at hSw);go_simp;(try with_reducible rfl))
 simp only[Act.put,List.setIfInBounds_toArray,List.set_cons_zero,List.set_cons_succ];refine wpAnyH_ready (rs:=[8]) (by kernel_rfl) (by simp) ?_;refine AllReadyH.cons rfl (fun K hK=> ?_) AllReadyH.nil;go_simp;refine HLd.out.mono ?_;rintro e w4 ⟨rfl,ha4,hm4⟩;have H4:=HK3.out.word ha4 hm4;have SW4:w4.cell? ⟨c.gk,0,none⟩=some (.pointer (some ⟨c.ga,0,none⟩))∧w4.cell? ⟨c.gk,4,none⟩=some (.int .i64 P.fl):=⟨H4.1.cells.1.1,H4.1.cells.2.1⟩;have HF:=Lib.hid H4.1;have HM:=Lib.hid ((Mod.of_below HB.out).trans H4.2);clear ha4 hm4 H4 HK3 HLd SW HB;go_simp;refine hK.out _ _ SW4 (fun hHeld=> ?_);refine take_to 9 (some 12) (v:= ?_) rfl rfl (by kernel_rfl) (by kernel_rfl) (by kernel_rfl) (fun _ _ _ h=>h) (Or.inl ⟨by rfl,?_⟩) (by first|trivial|assumption) ?_;rotate_left;focus(intro w hSw;(try dsimp only at hSw);go_simp;(try with_reducible rfl))
 simp only[Act.put,List.setIfInBounds_toArray,List.set_cons_zero,List.set_cons_succ];refine take_to 10 (some 2) (v:= ?_) rfl rfl (by kernel_rfl) (by kernel_rfl) (by kernel_rfl) (fun _ _ _ h=>h) (Or.inl ⟨by rfl,?_⟩) (by first|trivial|assumption) ?_;rotate_left;focus(intro w hSw;(try dsimp only at hSw);go_simp;(try with_reducible rfl))
 simp only[Act.put,List.setIfInBounds_toArray,List.set_cons_zero,List.set_cons_succ];refine wpAnyH_done (by kernel_rfl) ?_ _;clear SW4;go_wp2_with fail;go_ret;exact⟨rfl,HF.out,HM.out⟩
theorem read_enter (K:RdA 261 L W c P x)(O:RpOk P)(ho:x.1.ops≤1000000)(k:Nat)(hk:k<P.T):Calls Tryz.prog 334 #[.pointer (some ⟨c.gk,0,none⟩),.int .i64 (k:Int),.int .i64 2] W fun e w'=>e= .returned (.int .i64 3)∧RdA 261 L w' c P (bump x.1 (P.f+2*(P.nd k:Int)+0),x.2)∧Mod [c.ga,c.ha,c.hs] W w':=by
 have hnd:=O.nd k hk;have hf1:=O.f1;have hnn:=O.nn;have HN:=Lib.hid (K.node hk);have HG:=Lib.hid (Gg.Enter_gg c.gg c.ga P.f P.NN _ K.gb c.ha x.1 K.ar ho (P.nd k:Int) (by omega) (by omega) (by omega) (by omega));obtain⟨⟨-,c1,c2⟩,-,-⟩:=K.cells;have HK1:=Lib.hid K;clear K O ho hnd hf1 hnn;go_enter Tryz.func334,Tryz.ntmps334;go_wp2_with fail;refine(HN.out).mono ?_;rintro e wx ⟨rfl,hwx⟩;obtain rfl:=hwx.symm;go_wp2_with fail;refine HG.out.mono ?_;rintro e w2 ⟨rfl,ha2,hm2⟩;have H2:=Lib.hid (HK1.out.word ha2 hm2);clear ha2 hm2;go_wp2_with fail;go_ret;exact⟨rfl,H2.out.1,H2.out.2⟩
theorem read_exit (K:RdA 261 L W c P x)(O:RpOk P)(ho:x.1.ops≤1000000)(k:Nat)(hk:k<P.T):Calls Tryz.prog 334 #[.pointer (some ⟨c.gk,0,none⟩),.int .i64 (k:Int),.int .i64 11] W fun e w'=>e= .returned (.int .i64 0)∧RdA 261 L w' c P (bump x.1 (P.f+2*(P.nd k:Int)+1),x.2)∧Mod [c.ga,c.ha,c.hs] W w':=by
 have hnd:=O.nd k hk;have hf1:=O.f1;have hnn:=O.nn;have HN:=Lib.hid (K.node hk);have HG:=Lib.hid (Gg.Exit_gg c.gg c.ga P.f P.NN _ K.gb c.ha x.1 K.ar ho (P.nd k:Int) (by omega) (by omega) (by omega) (by omega));obtain⟨⟨-,c1,c2⟩,-,-⟩:=K.cells;have HK1:=Lib.hid K;clear K O ho hnd hf1 hnn;go_enter Tryz.func334,Tryz.ntmps334;go_wp2_with fail;refine(HN.out).mono ?_;rintro e wx ⟨rfl,hwx⟩;obtain rfl:=hwx.symm;go_wp2_with fail;refine HG.out.mono ?_;rintro e w2 ⟨rfl,ha2,hm2⟩;have H2:=Lib.hid (HK1.out.word ha2 hm2);clear ha2 hm2;go_wp2_with fail;go_ret;exact⟨rfl,H2.out.1,H2.out.2⟩
theorem read_one (K:RdA 261 L W c P x)(ho:x.1.ops≤1000000)(hz:x.1.get P.fl=0)(k:Nat)(hk:k<P.T):Calls Tryz.prog 334 #[.pointer (some ⟨c.gk,0,none⟩),.int .i64 (k:Int),.int .i64 1] W fun e w'=>e= .returned (.int .i64 2)∧RdA 261 L w' c P (x.1.op 1 P.fl false 0,x.2)∧Mod [c.ga,c.ha,c.hs] W w':=by
 have HN:=Lib.hid (K.node hk);have HQ:=Lib.hid (quiet_w K ho hz);obtain⟨⟨-,c1,c2⟩,-,-⟩:=K.cells;clear K;go_enter Tryz.func334,Tryz.ntmps334;go_wp2_with fail;refine(HN.out).mono ?_;rintro e wx ⟨rfl,hwx⟩;obtain rfl:=hwx.symm;go_wp2_with fail;refine HQ.out.mono ?_;rintro e w2 ⟨rfl,h2,hm2⟩;have H2:=Lib.hid h2;have M2:=Lib.hid hm2;clear h2 hm2;go_wp2_with fail;go_ret;exact⟨rfl,H2.out,M2.out⟩
theorem read_two (K:RdA 261 L W c P x)(ho:x.1.ops≤1000000)(hz:x.1.get P.fl=0)(k:Nat)(hk:k<P.T):Calls Tryz.prog 334 #[.pointer (some ⟨c.gk,0,none⟩),.int .i64 (k:Int),.int .i64 3] W fun e w'=>e= .returned (.int .i64 10)∧RdA 261 L w' c P (x.1.op 1 P.fl false 0,x.2)∧Mod [c.ga,c.ha,c.hs] W w':=by
 have HN:=Lib.hid (K.node hk);have HQ:=Lib.hid (quiet_w K ho hz);obtain⟨⟨-,c1,c2⟩,-,-⟩:=K.cells;clear K;go_enter Tryz.func334,Tryz.ntmps334;go_wp2_with fail;refine(HN.out).mono ?_;rintro e wx ⟨rfl,hwx⟩;obtain rfl:=hwx.symm;go_wp2_with fail;refine HQ.out.mono ?_;rintro e w2 ⟨rfl,h2,hm2⟩;have H2:=Lib.hid h2;have M2:=Lib.hid hm2;clear h2 hm2;go_wp2_with fail;go_ret;exact⟨rfl,H2.out,M2.out⟩
theorem stepw_by (K:RdA 261 L W c P x)(k:Nat)(hk:k<P.T)(pc n:Int)(hpc:pc≠0∧pc≠10)(h:(spOf x.2 (k:Int)).pc=pc)(ha:(spOf x.2 (k:Int)).a=1)(σ':Ar)
 (HD:∀W,RdA 261 L W c P x→Calls Tryz.prog 334 #[.pointer (some ⟨c.gk,0,none⟩),.int .i64 (k:Int),.int .i64 pc] W fun e w'=>e= .returned (.int .i64 n)∧RdA 261 L w' c P (σ',x.2)∧Mod [c.ga,c.ha,c.hs] W w'):
 Calls Tryz.prog 330 #[.pointer (some ⟨c.gk,0,none⟩),.int .i64 (k:Int)] W (RAft 261 L c P (decide (n=10)||decide (n=0),(σ',x.2.set k {spOf x.2 (k:Int)with pc:=n})) W):=by
 generalize hw:(decide (n=10)||decide (n=0))=rb;replace hw:=Lib.hid hw;have HDh:=Lib.hid HD;have HS:=Lib.hid (spot_writers K (k:Int));unfold vSp at HS;have i1:(k:Int)<(P.T:Int):=by omega
 have HK:=Lib.hid (fun W' (h:Below W.heap.size W W')=>K.same h);have e0:=ibeq_no hpc.1;have e1:=ibeq_no hpc.2;have hz0:=K.sz;obtain⟨-,la,lb,lc⟩:=K.lo;generalize hsp:spOf x.2 (k:Int)=s at*;have HSP:=Lib.hid hsp;clear hsp HD K hpc;obtain⟨xp,xa,xb,xc⟩:=s;simp only at HS h ha;subst h ha;go_enter Tryz.func330,Tryz.ntmps330;go_wp2_with fail;refine HS.out.mono ?_;rintro e w2 ⟨rfl,hb⟩;have hbz:=hb.size;have hb2:=hb.trans ((below_new w2 (.cells #[.int .i64 xp,.int .i64 1,.int .i64 xb,.int .i64 xc] 134)).mono hb.size);have HB:=Lib.hid hb2;have HK2:=Lib.hid (HK.out _ hb2);have HD3:=Lib.hid (HDh.out _ HK2.out);clear hb hb2 HK HDh;go_wp2_with fail;refine HD3.out.mono ?_;rintro e w4 ⟨rfl,hk4,hm4⟩;obtain⟨c0,-,-,-,fz⟩:=hk4.spots hk;obtain⟨-,-,c8⟩:=hk4.cells;have f0:=fz (k*4);have HF:=Lib.hid (hk4.pc hk n);have HM:=Lib.hid ((Mod.of_below HB.out).trans hm4);simp only at c0 HF;rw[HSP.out]at c0 HF;clear hk4 hm4 fz HK2 HD3;by_cases h10:n=10
 ·subst h10
  obtain rfl:true=rb:=hw.out;go_wp2_with fail;go_ret;exact⟨rfl,HF.out.1,HM.out.trans HF.out.2⟩
 ·have m10:=ibeq_no h10
  by_cases h0:n=0
  ·subst h0
   obtain rfl:true=rb:=hw.out;go_wp2_with fail;go_ret;exact⟨rfl,HF.out.1,HM.out.trans HF.out.2⟩
  ·have m0:=ibeq_no h0
   obtain rfl:false=rb:=by
    have:=hw.out;rw[decide_eq_false h10,decide_eq_false h0]at this;exact this
   go_wp2_with fail;go_ret;exact⟨rfl,HF.out.1,HM.out.trans HF.out.2⟩
theorem step_writers (K:RdA 261 L W c P x)(O:RpOk P)(hm:P.m=3){mm:Nat}(ok:OkR P x mm)(ho:mm≤1000000)(k:Nat)(hk:k<P.T)(hs:gst (spOf x.2 (k:Int))=1∨gst (spOf x.2 (k:Int))=3):Calls Tryz.prog 330 #[.pointer (some ⟨c.gk,0,none⟩),.int .i64 (k:Int)] W (RAft 261 L c P (rstp P x (k:Int)) W):=by
 have hl:lastR P.m=3:=by unfold lastR;rw[if_pos hm]
 have he:entR P.m=2:=by unfold entR;rw[if_pos hm]
 obtain⟨h1,h2⟩:=ok_pcs ok hs;have hops:=ok.ops;rw[hl]at h1;have hc:(spOf x.2 (k:Int)).pc=1∨(spOf x.2 (k:Int)).pc=2∨(spOf x.2 (k:Int)).pc=3∨(spOf x.2 (k:Int)).pc=11:=by omega
 rcases hc with h|h|h|h
 ·rw[rstp_eq h (σ':=x.1.op 1 P.fl false 0) (n:=2) (by unfold rword;rw[if_neg (by omega),he,if_neg (by omega)]) (by unfold rpc rnext;rw[if_neg (by omega),hl,if_neg (by omega)];rfl)]
  exact stepw_by K k hk 1 2 (by decide) h h2 _ fun W' K'=>read_one K' (by omega) ok.fl0 k hk
 ·rw[rstp_eq h (σ':=bump x.1 (P.f+2*(P.nd k:Int)+0)) (n:=3) (by unfold rword;rw[if_neg (by omega),if_pos he.symm]) (by unfold rpc rnext;rw[if_neg (by omega),hl,if_neg (by omega)];rfl)]
  exact stepw_by K k hk 2 3 (by decide) h h2 _ fun W' K'=>read_enter K' O (by omega) k hk
 ·rw[rstp_eq h (σ':=x.1.op 1 P.fl false 0) (n:=10) (by unfold rword;rw[if_neg (by omega),he,if_neg (by omega)]) (by unfold rpc rnext;rw[if_neg (by omega),hl,if_pos rfl])]
  exact stepw_by K k hk 3 10 (by decide) h h2 _ fun W' K'=>read_two K' (by omega) ok.fl0 k hk
 ·rw[rstp_eq h (σ':=bump x.1 (P.f+2*(P.nd k:Int)+1)) (n:=0) (by unfold rword;rw[if_pos rfl]) (by unfold rpc;rw[if_pos rfl])]
  exact stepw_by K k hk 11 0 (by decide) h h2 _ fun W' K'=>read_exit K' O (by omega) k hk
end
end Go.Proofs.YtfmiioddhpkdkaaGreat.Rw
namespace Go.Proofs.YtfmiioddhpkdkaaGreat.Rw
open Go.RowKit Tp Ara Lok Lk Wr Wo Ga
structure RAt (Ty TyP:TypeId)(g gr:Nat)(kind m:Int)(c:Rc)(P:Rp)(m0 L k:Nat)(W:World)(x:Ar×List Sp):Prop where
 lk:LkB W g kind (P.T:Int) 166 (botV gr)
 rw_:RwB W gr m TyP (.pointer (some ⟨c.gk,0,none⟩))
 rd:RdA Ty L W c P x
 ok:OkR P x (m0+k)
 ng:(g≠c.ga∧g≠c.ha∧g≠c.hs)∧(gr≠c.ga∧gr≠c.ha∧gr≠c.hs)
 lo:g<L∧gr<L
 kd:11≤kind∧kind≤13
 m0_:m≠0
theorem rdS_kind {kind:Int}(h:11≤kind∧kind≤13)(s:Sp):rdS kind s=rdS 11 s:=by
 unfold rdS shK;rw[decide_eq_true h.1,decide_eq_true h.2];rfl
theorem rsub {ga ha hs:Nat}{W W':World}{g:Nat}{o:Obj}(hg:W.heap[g]? =some o)(hm:Mod [ga,ha,hs] W W')(h:g≠ga∧g≠ha∧g≠hs):W'.heap[g]? =some o:=hm.blk hg (by simp;omega)
section
variable {Ty TyP:TypeId}{g gr:Nat}{kind m:Int}{c:Rc}{P:Rp}{m0 L k:Nat}{W W':World}{x:Ar×List Sp}
theorem RAt.keep (K:RAt Ty TyP g gr kind m c P m0 L k W x)(hb:Below L W W'):RAt Ty TyP g gr kind m c P m0 L k W' x:=
 ⟨(hb.block _ K.lo.1).trans K.lk,(hb.block _ K.lo.2).trans K.rw_,K.rd.keep hb,K.ok,K.ng,K.lo,K.kd,K.m0_⟩
theorem RAt.acts (K:RAt Ty TyP g gr kind m c P m0 L k W x){x':Ar×List Sp}(hk:RdA Ty L W' c P x')(ho:OkR P x' (m0+k+1))(hm:Mod [c.ga,c.ha,c.hs] W W'):RAt Ty TyP g gr kind m c P m0 L (k+1) W' x':=
 ⟨rsub K.lk hm K.ng.1,rsub K.rw_ hm K.ng.2,hk,ho,K.ng,K.lo,K.kd,K.m0_⟩
end
theorem mmneutralAsk (gk:Nat)(w:World):(method 456 210 (.pointer (some ⟨gk,0,none⟩)) "Ask").run Tryz.prog w= .ok (291,.pointer (some ⟨gk,0,none⟩)) w:=by kernel_rfl
theorem mmneutralLeave (gk:Nat)(w:World):(method 456 210 (.pointer (some ⟨gk,0,none⟩)) "Leave").run Tryz.prog w= .ok (292,.pointer (some ⟨gk,0,none⟩)) w:=by kernel_rfl
theorem mmneutralStep (gk:Nat)(w:World):(method 456 210 (.pointer (some ⟨gk,0,none⟩)) "Step").run Tryz.prog w= .ok (295,.pointer (some ⟨gk,0,none⟩)) w:=by kernel_rfl
theorem mmneutralSpot (gk:Nat)(w:World):(method 456 210 (.pointer (some ⟨gk,0,none⟩)) "Spot").run Tryz.prog w= .ok (294,.pointer (some ⟨gk,0,none⟩)) w:=by kernel_rfl
theorem ccneutralAsk (a:Array Value)(w:World):(callFunc 291 a).run Tryz.prog w= .ok (.enter 291 a) w:=by kernel_rfl
theorem ccneutralLeave (a:Array Value)(w:World):(callFunc 292 a).run Tryz.prog w= .ok (.enter 292 a) w:=by kernel_rfl
theorem ccneutralStep (a:Array Value)(w:World):(callFunc 295 a).run Tryz.prog w= .ok (.enter 295 a) w:=by kernel_rfl
theorem ccneutralSpot (a:Array Value)(w:World):(callFunc 294 a).run Tryz.prog w= .ok (.enter 294 a) w:=by kernel_rfl
section
variable {g gr:Nat}{kind m:Int}{c:Rc}{P:Rp}{m0 L k:Nat}{W:World}{x:Ar×List Sp}
theorem rspot_neutral (K:RAt 254 210 g gr kind m c P m0 L k W x)(t:Int):Calls Tryz.prog 285 #[.pointer (some ⟨gr,0,none⟩),.int .i64 t] W fun e w'=>e= .returned (vSp (spOf x.2 t))∧Below W.heap.size W w':=
 Spot_rw gr m _ _ W K.rw_ K.m0_ _ _ ccneutralSpot (mmneutralSpot c.gk) t _ fun V hb=>spot_neutral (K.rd.same hb) t
theorem lspot_neutral (K:RAt 254 210 g gr kind m c P m0 L k W x)(t:Int):Calls Tryz.prog 61 #[.pointer (some ⟨g,0,none⟩),.int .i64 t] W fun e w'=>e= .returned (vSp (spOf x.2 t))∧Below W.heap.size W w':=by
 by_cases ht:t<0∨(P.T:Int)≤t
 ·rw[K.rd.out ht]
  exact Spot_out g kind P.T _ _ W K.lk t ht
 ·exact Spot_gen g kind P.T _ _ W K.lk _ _ bcSpot (bmSpot gr) t (by omega) (by omega) _ fun V hb=>rspot_neutral (K.keep (hb.mono K.rd.sz)) t
theorem li_neutral (O:RpOk P)(hm:P.m≠3)(hm0:m0≤50000)(hL:c.ga<L∧c.ha<L∧c.hs<L):LI g (ldR P) (fun k W x=>RAt 254 210 g gr kind m c P m0 L k W x) (fun b=>b=true) [c.ga,c.ha,c.hs] L:=by
 refine⟨by simp;omega,fun k W x K=>⟨K.lk,K.rw_,K.rd,K.ok.up,K.ng,K.lo,K.kd,K.m0_⟩,fun k W W' x K hb=>K.keep hb,fun k W x K=>threads_lk _ _ _ _ _ W K.lk,fun k W x t K=> ?_,fun k W x t K=> ?_,fun k W x t b hk hb K h0 h1=> ?_,fun k W x t hk K h0 h1=> ?_,fun k W x t hk K h0 h1 hst=> ?_,fun k W x t K h0 h1=> ?_⟩
 ·exact State_gen g W t _ fun V hb=>lspot_neutral (K.keep (hb.mono K.rd.sz)) t
 ·have:=Reads_gen g kind P.T _ _ W K.lk t _ fun V hb=>lspot_neutral (K.keep (hb.mono K.rd.sz)) t
  rw[rdS_kind K.kd]at this;exact this
 ·subst hb
  obtain⟨n,rfl⟩:=Int.eq_ofNat_of_zero_le h0;have hn:n<P.T:=by have:(n:Int)<(P.T:Int):=h1;omega
  exact(Ask_gen g kind P.T _ _ W K.lk _ _ bcAsk (bmAsk gr) n true h0 h1 _ (fun w'=>RdA 254 L w' c P (rask x n).2∧Mod [c.ga,c.ha,c.hs] W w') (Ask_rw gr m _ _ W K.rw_ K.m0_ _ _ ccneutralAsk (mmneutralAsk c.gk) n true _ _ (ask_neutral K.rd n hn))).mono fun e w' ⟨e1,e2,e3⟩=>⟨e1,K.acts e2 (OkR.asks K.ok ⟨h0,h1⟩) e3,e3⟩
 ·obtain⟨n,rfl⟩:=Int.eq_ofNat_of_zero_le h0
  have hn:n<P.T:=by have:(n:Int)<(P.T:Int):=h1;omega
  exact(Leave_gen g kind P.T _ _ W K.lk _ _ bcLeave (bmLeave gr) n h0 h1 _ (fun w'=>RdA 254 L w' c P (rlv x n).2∧Mod [c.ga,c.ha,c.hs] W w') (Leave_rw gr m _ _ W K.rw_ K.m0_ _ _ ccneutralLeave (mmneutralLeave c.gk) n _ _ (leave_neutral K.rd n hn (fun h=>K.ok.rd n (by omega))))).mono fun e w' ⟨e1,e2,e3⟩=>⟨e1,K.acts e2 (OkR.leaves K.ok ⟨h0,h1⟩) e3,e3⟩
 ·obtain⟨n,rfl⟩:=Int.eq_ofNat_of_zero_le h0
  have hn:n<P.T:=by have:(n:Int)<(P.T:Int):=h1;omega
  exact(Step_gen g kind P.T _ _ W K.lk _ _ bcStep (bmStep gr) n h0 h1 _ (fun w'=>RdA 254 L w' c P (rstp P x n).2∧Mod [c.ga,c.ha,c.hs] W w') (Step_rw gr m _ _ W K.rw_ K.m0_ _ _ ccneutralStep (mmneutralStep c.gk) n _ _ (step_neutral K.rd O hm K.ok (by omega) n hn hst))).mono fun e w' ⟨e1,e2,e3⟩=>⟨e1,K.acts e2 (OkR.step O K.ok ⟨h0,h1⟩ hst) e3,e3⟩
 ·exact Count_gen g kind P.T _ _ W K.lk _ _ bcCount (bmCount gr) t h0 h1 _ (fun w'=>Below W.heap.size W w') (both_count gr W (spOf x.2 t) t fun V hb=>rspot_neutral (K.keep (hb.mono K.rd.sz)) t)
end
theorem mmreadersAsk (gk:Nat)(w:World):(method 456 213 (.pointer (some ⟨gk,0,none⟩)) "Ask").run Tryz.prog w= .ok (315,.pointer (some ⟨gk,0,none⟩)) w:=by kernel_rfl
theorem mmreadersLeave (gk:Nat)(w:World):(method 456 213 (.pointer (some ⟨gk,0,none⟩)) "Leave").run Tryz.prog w= .ok (316,.pointer (some ⟨gk,0,none⟩)) w:=by kernel_rfl
theorem mmreadersStep (gk:Nat)(w:World):(method 456 213 (.pointer (some ⟨gk,0,none⟩)) "Step").run Tryz.prog w= .ok (319,.pointer (some ⟨gk,0,none⟩)) w:=by kernel_rfl
theorem mmreadersSpot (gk:Nat)(w:World):(method 456 213 (.pointer (some ⟨gk,0,none⟩)) "Spot").run Tryz.prog w= .ok (318,.pointer (some ⟨gk,0,none⟩)) w:=by kernel_rfl
theorem ccreadersAsk (a:Array Value)(w:World):(callFunc 315 a).run Tryz.prog w= .ok (.enter 315 a) w:=by kernel_rfl
theorem ccreadersLeave (a:Array Value)(w:World):(callFunc 316 a).run Tryz.prog w= .ok (.enter 316 a) w:=by kernel_rfl
theorem ccreadersStep (a:Array Value)(w:World):(callFunc 319 a).run Tryz.prog w= .ok (.enter 319 a) w:=by kernel_rfl
theorem ccreadersSpot (a:Array Value)(w:World):(callFunc 318 a).run Tryz.prog w= .ok (.enter 318 a) w:=by kernel_rfl
section
variable {g gr:Nat}{kind m:Int}{c:Rc}{P:Rp}{m0 L k:Nat}{W:World}{x:Ar×List Sp}
theorem rspot_readers (K:RAt 259 213 g gr kind m c P m0 L k W x)(t:Int):Calls Tryz.prog 285 #[.pointer (some ⟨gr,0,none⟩),.int .i64 t] W fun e w'=>e= .returned (vSp (spOf x.2 t))∧Below W.heap.size W w':=
 Spot_rw gr m _ _ W K.rw_ K.m0_ _ _ ccreadersSpot (mmreadersSpot c.gk) t _ fun V hb=>spot_readers (K.rd.same hb) t
theorem lspot_readers (K:RAt 259 213 g gr kind m c P m0 L k W x)(t:Int):Calls Tryz.prog 61 #[.pointer (some ⟨g,0,none⟩),.int .i64 t] W fun e w'=>e= .returned (vSp (spOf x.2 t))∧Below W.heap.size W w':=by
 by_cases ht:t<0∨(P.T:Int)≤t
 ·rw[K.rd.out ht]
  exact Spot_out g kind P.T _ _ W K.lk t ht
 ·exact Spot_gen g kind P.T _ _ W K.lk _ _ bcSpot (bmSpot gr) t (by omega) (by omega) _ fun V hb=>rspot_readers (K.keep (hb.mono K.rd.sz)) t
theorem li_readers (O:RpOk P)(hm:P.m≠3)(hm0:m0≤50000)(hL:c.ga<L∧c.ha<L∧c.hs<L):LI g (ldR P) (fun k W x=>RAt 259 213 g gr kind m c P m0 L k W x) (fun b=>b=true) [c.ga,c.ha,c.hs] L:=by
 refine⟨by simp;omega,fun k W x K=>⟨K.lk,K.rw_,K.rd,K.ok.up,K.ng,K.lo,K.kd,K.m0_⟩,fun k W W' x K hb=>K.keep hb,fun k W x K=>threads_lk _ _ _ _ _ W K.lk,fun k W x t K=> ?_,fun k W x t K=> ?_,fun k W x t b hk hb K h0 h1=> ?_,fun k W x t hk K h0 h1=> ?_,fun k W x t hk K h0 h1 hst=> ?_,fun k W x t K h0 h1=> ?_⟩
 ·exact State_gen g W t _ fun V hb=>lspot_readers (K.keep (hb.mono K.rd.sz)) t
 ·have:=Reads_gen g kind P.T _ _ W K.lk t _ fun V hb=>lspot_readers (K.keep (hb.mono K.rd.sz)) t
  rw[rdS_kind K.kd]at this;exact this
 ·subst hb
  obtain⟨n,rfl⟩:=Int.eq_ofNat_of_zero_le h0;have hn:n<P.T:=by have:(n:Int)<(P.T:Int):=h1;omega
  exact(Ask_gen g kind P.T _ _ W K.lk _ _ bcAsk (bmAsk gr) n true h0 h1 _ (fun w'=>RdA 259 L w' c P (rask x n).2∧Mod [c.ga,c.ha,c.hs] W w') (Ask_rw gr m _ _ W K.rw_ K.m0_ _ _ ccreadersAsk (mmreadersAsk c.gk) n true _ _ (ask_readers K.rd n hn))).mono fun e w' ⟨e1,e2,e3⟩=>⟨e1,K.acts e2 (OkR.asks K.ok ⟨h0,h1⟩) e3,e3⟩
 ·obtain⟨n,rfl⟩:=Int.eq_ofNat_of_zero_le h0
  have hn:n<P.T:=by have:(n:Int)<(P.T:Int):=h1;omega
  exact(Leave_gen g kind P.T _ _ W K.lk _ _ bcLeave (bmLeave gr) n h0 h1 _ (fun w'=>RdA 259 L w' c P (rlv x n).2∧Mod [c.ga,c.ha,c.hs] W w') (Leave_rw gr m _ _ W K.rw_ K.m0_ _ _ ccreadersLeave (mmreadersLeave c.gk) n _ _ (leave_readers K.rd n hn (fun h=>K.ok.rd n (by omega))))).mono fun e w' ⟨e1,e2,e3⟩=>⟨e1,K.acts e2 (OkR.leaves K.ok ⟨h0,h1⟩) e3,e3⟩
 ·obtain⟨n,rfl⟩:=Int.eq_ofNat_of_zero_le h0
  have hn:n<P.T:=by have:(n:Int)<(P.T:Int):=h1;omega
  exact(Step_gen g kind P.T _ _ W K.lk _ _ bcStep (bmStep gr) n h0 h1 _ (fun w'=>RdA 259 L w' c P (rstp P x n).2∧Mod [c.ga,c.ha,c.hs] W w') (Step_rw gr m _ _ W K.rw_ K.m0_ _ _ ccreadersStep (mmreadersStep c.gk) n _ _ (step_readers K.rd O hm K.ok (by omega) n hn hst))).mono fun e w' ⟨e1,e2,e3⟩=>⟨e1,K.acts e2 (OkR.step O K.ok ⟨h0,h1⟩ hst) e3,e3⟩
 ·exact Count_gen g kind P.T _ _ W K.lk _ _ bcCount (bmCount gr) t h0 h1 _ (fun w'=>Below W.heap.size W w') (both_count gr W (spOf x.2 t) t fun V hb=>rspot_readers (K.keep (hb.mono K.rd.sz)) t)
end
theorem mmwritersAsk (gk:Nat)(w:World):(method 456 216 (.pointer (some ⟨gk,0,none⟩)) "Ask").run Tryz.prog w= .ok (326,.pointer (some ⟨gk,0,none⟩)) w:=by kernel_rfl
theorem mmwritersLeave (gk:Nat)(w:World):(method 456 216 (.pointer (some ⟨gk,0,none⟩)) "Leave").run Tryz.prog w= .ok (327,.pointer (some ⟨gk,0,none⟩)) w:=by kernel_rfl
theorem mmwritersStep (gk:Nat)(w:World):(method 456 216 (.pointer (some ⟨gk,0,none⟩)) "Step").run Tryz.prog w= .ok (330,.pointer (some ⟨gk,0,none⟩)) w:=by kernel_rfl
theorem mmwritersSpot (gk:Nat)(w:World):(method 456 216 (.pointer (some ⟨gk,0,none⟩)) "Spot").run Tryz.prog w= .ok (329,.pointer (some ⟨gk,0,none⟩)) w:=by kernel_rfl
theorem ccwritersAsk (a:Array Value)(w:World):(callFunc 326 a).run Tryz.prog w= .ok (.enter 326 a) w:=by kernel_rfl
theorem ccwritersLeave (a:Array Value)(w:World):(callFunc 327 a).run Tryz.prog w= .ok (.enter 327 a) w:=by kernel_rfl
theorem ccwritersStep (a:Array Value)(w:World):(callFunc 330 a).run Tryz.prog w= .ok (.enter 330 a) w:=by kernel_rfl
theorem ccwritersSpot (a:Array Value)(w:World):(callFunc 329 a).run Tryz.prog w= .ok (.enter 329 a) w:=by kernel_rfl
section
variable {g gr:Nat}{kind m:Int}{c:Rc}{P:Rp}{m0 L k:Nat}{W:World}{x:Ar×List Sp}
theorem rspot_writers (K:RAt 261 216 g gr kind m c P m0 L k W x)(t:Int):Calls Tryz.prog 285 #[.pointer (some ⟨gr,0,none⟩),.int .i64 t] W fun e w'=>e= .returned (vSp (spOf x.2 t))∧Below W.heap.size W w':=
 Spot_rw gr m _ _ W K.rw_ K.m0_ _ _ ccwritersSpot (mmwritersSpot c.gk) t _ fun V hb=>spot_writers (K.rd.same hb) t
theorem lspot_writers (K:RAt 261 216 g gr kind m c P m0 L k W x)(t:Int):Calls Tryz.prog 61 #[.pointer (some ⟨g,0,none⟩),.int .i64 t] W fun e w'=>e= .returned (vSp (spOf x.2 t))∧Below W.heap.size W w':=by
 by_cases ht:t<0∨(P.T:Int)≤t
 ·rw[K.rd.out ht]
  exact Spot_out g kind P.T _ _ W K.lk t ht
 ·exact Spot_gen g kind P.T _ _ W K.lk _ _ bcSpot (bmSpot gr) t (by omega) (by omega) _ fun V hb=>rspot_writers (K.keep (hb.mono K.rd.sz)) t
theorem li_writers (O:RpOk P)(hm:P.m=3)(hm0:m0≤50000)(hL:c.ga<L∧c.ha<L∧c.hs<L):LI g (ldR P) (fun k W x=>RAt 261 216 g gr kind m c P m0 L k W x) (fun b=>b=true) [c.ga,c.ha,c.hs] L:=by
 refine⟨by simp;omega,fun k W x K=>⟨K.lk,K.rw_,K.rd,K.ok.up,K.ng,K.lo,K.kd,K.m0_⟩,fun k W W' x K hb=>K.keep hb,fun k W x K=>threads_lk _ _ _ _ _ W K.lk,fun k W x t K=> ?_,fun k W x t K=> ?_,fun k W x t b hk hb K h0 h1=> ?_,fun k W x t hk K h0 h1=> ?_,fun k W x t hk K h0 h1 hst=> ?_,fun k W x t K h0 h1=> ?_⟩
 ·exact State_gen g W t _ fun V hb=>lspot_writers (K.keep (hb.mono K.rd.sz)) t
 ·have:=Reads_gen g kind P.T _ _ W K.lk t _ fun V hb=>lspot_writers (K.keep (hb.mono K.rd.sz)) t
  rw[rdS_kind K.kd]at this;exact this
 ·subst hb
  obtain⟨n,rfl⟩:=Int.eq_ofNat_of_zero_le h0;have hn:n<P.T:=by have:(n:Int)<(P.T:Int):=h1;omega
  exact(Ask_gen g kind P.T _ _ W K.lk _ _ bcAsk (bmAsk gr) n true h0 h1 _ (fun w'=>RdA 261 L w' c P (rask x n).2∧Mod [c.ga,c.ha,c.hs] W w') (Ask_rw gr m _ _ W K.rw_ K.m0_ _ _ ccwritersAsk (mmwritersAsk c.gk) n true _ _ (ask_writers K.rd n hn))).mono fun e w' ⟨e1,e2,e3⟩=>⟨e1,K.acts e2 (OkR.asks K.ok ⟨h0,h1⟩) e3,e3⟩
 ·obtain⟨n,rfl⟩:=Int.eq_ofNat_of_zero_le h0
  have hn:n<P.T:=by have:(n:Int)<(P.T:Int):=h1;omega
  exact(Leave_gen g kind P.T _ _ W K.lk _ _ bcLeave (bmLeave gr) n h0 h1 _ (fun w'=>RdA 261 L w' c P (rlv x n).2∧Mod [c.ga,c.ha,c.hs] W w') (Leave_rw gr m _ _ W K.rw_ K.m0_ _ _ ccwritersLeave (mmwritersLeave c.gk) n _ _ (leave_writers K.rd n hn (fun h=>K.ok.rd n (by omega))))).mono fun e w' ⟨e1,e2,e3⟩=>⟨e1,K.acts e2 (OkR.leaves K.ok ⟨h0,h1⟩) e3,e3⟩
 ·obtain⟨n,rfl⟩:=Int.eq_ofNat_of_zero_le h0
  have hn:n<P.T:=by have:(n:Int)<(P.T:Int):=h1;omega
  exact(Step_gen g kind P.T _ _ W K.lk _ _ bcStep (bmStep gr) n h0 h1 _ (fun w'=>RdA 261 L w' c P (rstp P x n).2∧Mod [c.ga,c.ha,c.hs] W w') (Step_rw gr m _ _ W K.rw_ K.m0_ _ _ ccwritersStep (mmwritersStep c.gk) n _ _ (step_writers K.rd O hm K.ok (by omega) n hn hst))).mono fun e w' ⟨e1,e2,e3⟩=>⟨e1,K.acts e2 (OkR.step O K.ok ⟨h0,h1⟩ hst) e3,e3⟩
 ·exact Count_gen g kind P.T _ _ W K.lk _ _ bcCount (bmCount gr) t h0 h1 _ (fun w'=>Below W.heap.size W w') (both_count gr W (spOf x.2 t) t fun V hb=>rspot_writers (K.keep (hb.mono K.rd.sz)) t)
end
end Go.Proofs.YtfmiioddhpkdkaaGreat.Rw
namespace Go.Proofs.YtfmiioddhpkdkaaGreat.Tq
open Go.RowKit Ara Tp Lok Wo Co Cm Wr Go.Proofs.YtfmiioddhpkdkaaGreat.Rw Lk
theorem RdA.upL {Ty:TypeId}{L L':Nat}{W:World}{c:Rc}{P:Rp}{x:Ar×List Sp}(K:RdA Ty L W c P x)(h1:L≤L')(h2:L'≤W.heap.size):RdA Ty L' W c P x:=by
 obtain⟨⟨l1,l2,l3,l4⟩,l5,l6,l7⟩:=K.lo;exact⟨K.lb,K.gb,K.t1,K.t2,K.t6,K.rn,K.ar,K.sp,K.len,K.ne,⟨⟨by omega,by omega,by omega,by omega⟩,by omega,by omega,by omega⟩,h2⟩
def rx0 (p t:List Int)(q:Nw):Ar×List Sp:=(q.σN (arR p) q.NN,List.replicate t.length sp0)
def MadeR (p t:List Int)(q:Nw)(B0:Nat)(w:World)(e:Ending)(w':World):Prop:=
 ∃(m:Int) (gw ga gt gl:Nat) (At:Nat→World→Ar×List Sp→Prop) (S:List Nat),(1≤m∧m≤3)∧e= .returned (.pointer (some ⟨gw,0,none⟩))∧(∀x∈S,B0≤x)∧LI gl (ldR (rpOf m p t)) At (fun b=>b=true) S w'.heap.size∧WoA gw ga gt gl (ldR (rpOf m p t)) At S w'.heap.size 0 w' (rx0 p t q)∧Below w.heap.size w w'
theorem woa_neutral {B0:Nat}{p t:List Int}{kg kl par bud:Int}(hck:chk p t=0)(O:(nwOf p t kg kl par bud).Ok)(hp:par≤32){gw ga gt gl:Nat}{W2 w':World}(hW:WoB w' gw ga gt gl (shK 11))(hR:RR 254 210 1 11 B0 p t (nwOf p t kg kl par bud) ga gl W2)(hb:Below W2.heap.size W2 w')(h1:W2.heap.size≤gw)(h2:gw<w'.heap.size):
 ∃(At:Nat→World→Ar×List Sp→Prop) (S:List Nat),(∀x∈S,B0≤x)∧LI gl (ldR (rpOf 1 p t)) At (fun b=>b=true) S w'.heap.size∧WoA gw ga gt gl (ldR (rpOf 1 p t)) At S w'.heap.size 0 w' (rx0 p t (nwOf p t kg kl par bud)):=by
 obtain⟨gr,ha,B1,r1,⟨c,k1,k2,⟨k3,k4,k5,k6⟩,⟨k7,k8,k9⟩,ka,kb⟩,⟨n1,n2,n3⟩,⟨n4,n5⟩,b1,b2,b3⟩:=hR;obtain⟨hP,hO⟩:=okr_new 1 (by decide) hck O hp;obtain⟨-,l5,l6,l7⟩:=k2.lo;have hz:=hb.size;have hgl:gl<W2.heap.size:=lt_of_blk r1;have hgr:gr<W2.heap.size:=lt_of_blk k1;have hsh:shK 11=true:=by decide
 rw[hsh]at hW;refine⟨RAt 254 210 gl gr 11 1 c (rpOf 1 p t) 40 w'.heap.size,[c.ga,c.ha,c.hs],fun x hx=>by simp at hx;omega,li_neutral hP (by show(1:Int)≠3;decide) (by omega) ⟨by omega,by omega,by omega⟩,⟨hW,⟨r1.same hb,k1.same hb,RdA.upL (k2.keep hb) (by omega) (Nat.le_refl _),hO,⟨⟨by omega,by omega,by omega⟩,⟨by omega,by omega,kb⟩⟩,⟨by omega,by omega⟩,by decide,by decide⟩,by simp;omega,h2,Nat.le_refl _⟩⟩
theorem woa_readers {B0:Nat}{p t:List Int}{kg kl par bud:Int}(hck:chk p t=0)(O:(nwOf p t kg kl par bud).Ok)(hp:par≤32){gw ga gt gl:Nat}{W2 w':World}(hW:WoB w' gw ga gt gl (shK 12))(hR:RR 259 213 2 12 B0 p t (nwOf p t kg kl par bud) ga gl W2)(hb:Below W2.heap.size W2 w')(h1:W2.heap.size≤gw)(h2:gw<w'.heap.size):
 ∃(At:Nat→World→Ar×List Sp→Prop) (S:List Nat),(∀x∈S,B0≤x)∧LI gl (ldR (rpOf 2 p t)) At (fun b=>b=true) S w'.heap.size∧WoA gw ga gt gl (ldR (rpOf 2 p t)) At S w'.heap.size 0 w' (rx0 p t (nwOf p t kg kl par bud)):=by
 obtain⟨gr,ha,B1,r1,⟨c,k1,k2,⟨k3,k4,k5,k6⟩,⟨k7,k8,k9⟩,ka,kb⟩,⟨n1,n2,n3⟩,⟨n4,n5⟩,b1,b2,b3⟩:=hR;obtain⟨hP,hO⟩:=okr_new 2 (by decide) hck O hp;obtain⟨-,l5,l6,l7⟩:=k2.lo;have hz:=hb.size;have hgl:gl<W2.heap.size:=lt_of_blk r1;have hgr:gr<W2.heap.size:=lt_of_blk k1;have hsh:shK 12=true:=by decide
 rw[hsh]at hW;refine⟨RAt 259 213 gl gr 12 2 c (rpOf 2 p t) 40 w'.heap.size,[c.ga,c.ha,c.hs],fun x hx=>by simp at hx;omega,li_readers hP (by show(2:Int)≠3;decide) (by omega) ⟨by omega,by omega,by omega⟩,⟨hW,⟨r1.same hb,k1.same hb,RdA.upL (k2.keep hb) (by omega) (Nat.le_refl _),hO,⟨⟨by omega,by omega,by omega⟩,⟨by omega,by omega,kb⟩⟩,⟨by omega,by omega⟩,by decide,by decide⟩,by simp;omega,h2,Nat.le_refl _⟩⟩
theorem woa_writers {B0:Nat}{p t:List Int}{kg kl par bud:Int}(hck:chk p t=0)(O:(nwOf p t kg kl par bud).Ok)(hp:par≤32){gw ga gt gl:Nat}{W2 w':World}(hW:WoB w' gw ga gt gl (shK 13))(hR:RR 261 216 3 13 B0 p t (nwOf p t kg kl par bud) ga gl W2)(hb:Below W2.heap.size W2 w')(h1:W2.heap.size≤gw)(h2:gw<w'.heap.size):
 ∃(At:Nat→World→Ar×List Sp→Prop) (S:List Nat),(∀x∈S,B0≤x)∧LI gl (ldR (rpOf 3 p t)) At (fun b=>b=true) S w'.heap.size∧WoA gw ga gt gl (ldR (rpOf 3 p t)) At S w'.heap.size 0 w' (rx0 p t (nwOf p t kg kl par bud)):=by
 obtain⟨gr,ha,B1,r1,⟨c,k1,k2,⟨k3,k4,k5,k6⟩,⟨k7,k8,k9⟩,ka,kb⟩,⟨n1,n2,n3⟩,⟨n4,n5⟩,b1,b2,b3⟩:=hR;obtain⟨hP,hO⟩:=okr_new 3 (by decide) hck O hp;obtain⟨-,l5,l6,l7⟩:=k2.lo;have hz:=hb.size;have hgl:gl<W2.heap.size:=lt_of_blk r1;have hgr:gr<W2.heap.size:=lt_of_blk k1;have hsh:shK 13=true:=by decide
 rw[hsh]at hW;refine⟨RAt 261 216 gl gr 13 3 c (rpOf 3 p t) 40 w'.heap.size,[c.ga,c.ha,c.hs],fun x hx=>by simp at hx;omega,li_writers hP (by show(3:Int)=3;decide) (by omega) ⟨by omega,by omega,by omega⟩,⟨hW,⟨r1.same hb,k1.same hb,RdA.upL (k2.keep hb) (by omega) (Nat.le_refl _),hO,⟨⟨by omega,by omega,by omega⟩,⟨by omega,by omega,kb⟩⟩,⟨by omega,by omega⟩,by decide,by decide⟩,by simp;omega,h2,Nat.le_refl _⟩⟩
theorem made_r (p t:List Int)(A B:Option Addr)(c d:Nat)(w:World)(hs:Sl w w.heap.size A (p.flatMap decI))(ht:Sl w w.heap.size B (t.flatMap decI))(n0 n1 n2 n3:Int)(h0:0≤n0∧n0≤255)(h1:0≤n1∧n1≤255)(h2:0≤n2∧n2≤255)(h3:0≤n3∧n3≤255)(hck:chk p t=0)(h8:t.length≤8):
 Calls Tryz.prog 6 #[(.agg #[.slice A p.length c,.slice B t.length d]),.agg #[.int .u8 n0,.int .u8 n1,.int .u8 n2,.int .u8 (10+n3%3)],.int .i64 8] w (MadeR p t (nwOf p t (kgQ n0) (kgQ n1) (1+n2/4%4) (n2%4)) w.heap.size w):=by
 have hg:1≤kgQ n0∧kgQ n0≤5:=by unfold kgQ;omega
 have hl:1≤kgQ n1∧kgQ n1≤5:=by unfold kgQ;omega
 have hp:1≤1+n2/4%4∧1+n2/4%4≤32:=by omega
 have hB:Bud.right (n2%4)=true:=Bud.right_iff.2 (by omega);have O:=nw_ok hck hg hl hp (show 0≤n2%4 by omega);have hc:n3%3=0∨n3%3=1∨n3%3=2:=by omega
 rcases hc with h|h|h
 ·rw[h]
  have e:(1:Int)+((10:Int)+0)%13=11:=by decide
  have hmd:=made_yes p t A B c d w hs ht n0 n1 n2 (10+0) h0 h1 h2 (by decide) hck h8 (RR 254 210 1 11 w.heap.size p t (nwOf p t (kgQ n0) (kgQ n1) (1+n2/4%4) (n2%4))) (fun W hW=>by
   unfold spV;rw[e];exact wnew_neutral w.heap.size p t A B c d W hW.size hck ((Sl.below hs hW).more hW.size) ((Sl.below ht hW).more hW.size) (kgQ n0) (kgQ n1) (1+n2/4%4) (n2%4) hg hl hp (by omega) hB)
  rw[e]at hmd;refine hmd.mono ?_;rintro e w' ⟨gw,ga,gt,gl,W2,e1,e2,e3,e4,e5,e6,e7⟩;obtain⟨At,S,a1,a2,a3⟩:=woa_neutral hck O hp.2 e2 e3 e4 e5 e6;exact⟨1,gw,ga,gt,gl,At,S,by decide,e1,a1,a2,a3,e7⟩
 ·rw[h]
  have e:(1:Int)+((10:Int)+1)%13=12:=by decide
  have hmd:=made_yes p t A B c d w hs ht n0 n1 n2 (10+1) h0 h1 h2 (by decide) hck h8 (RR 259 213 2 12 w.heap.size p t (nwOf p t (kgQ n0) (kgQ n1) (1+n2/4%4) (n2%4))) (fun W hW=>by
   unfold spV;rw[e];exact wnew_readers w.heap.size p t A B c d W hW.size hck ((Sl.below hs hW).more hW.size) ((Sl.below ht hW).more hW.size) (kgQ n0) (kgQ n1) (1+n2/4%4) (n2%4) hg hl hp (by omega) hB)
  rw[e]at hmd;refine hmd.mono ?_;rintro e w' ⟨gw,ga,gt,gl,W2,e1,e2,e3,e4,e5,e6,e7⟩;obtain⟨At,S,a1,a2,a3⟩:=woa_readers hck O hp.2 e2 e3 e4 e5 e6;exact⟨2,gw,ga,gt,gl,At,S,by decide,e1,a1,a2,a3,e7⟩
 ·rw[h]
  have e:(1:Int)+((10:Int)+2)%13=13:=by decide
  have hmd:=made_yes p t A B c d w hs ht n0 n1 n2 (10+2) h0 h1 h2 (by decide) hck h8 (RR 261 216 3 13 w.heap.size p t (nwOf p t (kgQ n0) (kgQ n1) (1+n2/4%4) (n2%4))) (fun W hW=>by
   unfold spV;rw[e];exact wnew_writers w.heap.size p t A B c d W hW.size hck ((Sl.below hs hW).more hW.size) ((Sl.below ht hW).more hW.size) (kgQ n0) (kgQ n1) (1+n2/4%4) (n2%4) hg hl hp (by omega) hB)
  rw[e]at hmd;refine hmd.mono ?_;rintro e w' ⟨gw,ga,gt,gl,W2,e1,e2,e3,e4,e5,e6,e7⟩;obtain⟨At,S,a1,a2,a3⟩:=woa_writers hck O hp.2 e2 e3 e4 e5 e6;exact⟨3,gw,ga,gt,gl,At,S,by decide,e1,a1,a2,a3,e7⟩
end Go.Proofs.YtfmiioddhpkdkaaGreat.Tq
namespace Go.Proofs.YtfmiioddhpkdkaaGreat.Wq
open Go.RowKit Ara Lok Wn
structure CloAt (W:World)(B:Nat)(pl:Pl)(x:Mi):Prop where
 b0:W.heap[B]? =some (.cells #[.int .i64 pl.rest,.int .i64 pl.stay,.int .i64 pl.times,.bool pl.rd] 34 (0,0))
 b1:W.heap[B+1]? =some (.cells #[.int .i64 x.ws] 3 (0,0))
 b2:W.heap[B+2]? =some (.cells #[.int .i64 x.pk] 3 (0,0))
 b3:W.heap[B+3]? =some (.cells #[.int .i64 x.as_] 3 (0,0))
 b4:W.heap[B+4]? =some (.cells #[.int .i64 (lockW pl.rd)] 3 (0,0))
 b5:W.heap[B+5]? =some (.cells #[.int .i64 (unlockW pl.rd)] 3 (0,0))
theorem CloAt.mod {S:List Nat}{W W':World}{B:Nat}{pl:Pl}{x:Mi}(k:CloAt W B pl x)(hm:Mod S W W')(h:∀q∈S,q<B∨B+6≤q):CloAt W' B pl x:=
 ⟨hm.blk k.b0 (fun e=>by have:=h _ e;omega),hm.blk k.b1 (fun e=>by have:=h _ e;omega),hm.blk k.b2 (fun e=>by have:=h _ e;omega),hm.blk k.b3 (fun e=>by have:=h _ e;omega),hm.blk k.b4 (fun e=>by have:=h _ e;omega),hm.blk k.b5 (fun e=>by have:=h _ e;omega)⟩
theorem CloAt.lt {W:World}{B:Nat}{pl:Pl}{x:Mi}(k:CloAt W B pl x):B+6≤W.heap.size:=lt_of_blk k.b5
def clo (B:Nat):Value:= .func (.func 42) #[] #[.pointer (some ⟨B+1,0,none⟩),.pointer (some ⟨B+2,0,none⟩),.pointer (some ⟨B+3,0,none⟩),.pointer (some ⟨B,0,none⟩),.pointer (some ⟨B+4,0,none⟩),.pointer (some ⟨B+5,0,none⟩)]
theorem CloAt.cells {W:World}{B:Nat}{pl:Pl}{x:Mi}(k:CloAt W B pl x):(W.cell? ⟨B,0,none⟩=some (.int .i64 pl.rest)∧W.cell? ⟨B,1,none⟩=some (.int .i64 pl.stay)∧W.cell? ⟨B,2,none⟩=some (.int .i64 pl.times))∧(W.cell? ⟨B+1,0,none⟩=some (.int .i64 x.ws)∧W.cell? ⟨B+2,0,none⟩=some (.int .i64 x.pk)∧W.cell? ⟨B+3,0,none⟩=some (.int .i64 x.as_)∧W.cell? ⟨B+4,0,none⟩=some (.int .i64 (lockW pl.rd))∧W.cell? ⟨B+5,0,none⟩=some (.int .i64 (unlockW pl.rd)))∧W.frozen? ⟨B+1,0,none⟩=false∧W.frozen? ⟨B+2,0,none⟩=false∧W.frozen? ⟨B+3,0,none⟩=false:=
 ⟨⟨blk_cell k.b0 0 (by simp),blk_cell k.b0 1 (by simp),blk_cell k.b0 2 (by simp)⟩,⟨blk_cell k.b1 0 (by simp),blk_cell k.b2 0 (by simp),blk_cell k.b3 0 (by simp),blk_cell k.b4 0 (by simp),blk_cell k.b5 0 (by simp)⟩,blk_free k.b1 0,blk_free k.b2 0,blk_free k.b3 0⟩
theorem CloAt.was {W:World}{B:Nat}{pl:Pl}{x:Mi}(k:CloAt W B pl x)(v:Int):CloAt (W.setCell ⟨B+1,0,none⟩ (.int .i64 v)) B pl {x with ws:=v}:=by
 have hm:Mod [B+1] W (W.setCell ⟨B+1,0,none⟩ (.int .i64 v)):=(Mod.refl _ _).setCell (by simp) _;exact⟨hm.blk k.b0 (by simp),by simpa using blk_set k.b1 0 (.int .i64 v),hm.blk k.b2 (by simp),hm.blk k.b3 (by simp),hm.blk k.b4 (by simp),hm.blk k.b5 (by simp)⟩
theorem CloAt.pk {W:World}{B:Nat}{pl:Pl}{x:Mi}(k:CloAt W B pl x)(v:Int):CloAt (W.setCell ⟨B+2,0,none⟩ (.int .i64 v)) B pl {x with pk:=v}:=by
 have hm:Mod [B+2] W (W.setCell ⟨B+2,0,none⟩ (.int .i64 v)):=(Mod.refl _ _).setCell (by simp) _;exact⟨hm.blk k.b0 (by simp),hm.blk k.b1 (by simp),by simpa using blk_set k.b2 0 (.int .i64 v),hm.blk k.b3 (by simp),hm.blk k.b4 (by simp),hm.blk k.b5 (by simp)⟩
theorem CloAt.asks {W:World}{B:Nat}{pl:Pl}{x:Mi}(k:CloAt W B pl x)(v:Int):CloAt (W.setCell ⟨B+3,0,none⟩ (.int .i64 v)) B pl {x with as_:=v}:=by
 have hm:Mod [B+3] W (W.setCell ⟨B+3,0,none⟩ (.int .i64 v)):=(Mod.refl _ _).setCell (by simp) _;exact⟨hm.blk k.b0 (by simp),hm.blk k.b1 (by simp),hm.blk k.b2 (by simp),by simpa using blk_set k.b3 0 (.int .i64 v),hm.blk k.b4 (by simp),hm.blk k.b5 (by simp)⟩
theorem six (w:World)(a b c d e f:Obj):((((((w.alloc a).alloc b).alloc c).alloc d).alloc e).alloc f).heap[w.heap.size]? =some a∧((((((w.alloc a).alloc b).alloc c).alloc d).alloc e).alloc f).heap[w.heap.size+1]? =some b∧((((((w.alloc a).alloc b).alloc c).alloc d).alloc e).alloc f).heap[w.heap.size+2]? =some c∧((((((w.alloc a).alloc b).alloc c).alloc d).alloc e).alloc f).heap[w.heap.size+3]? =some d∧((((((w.alloc a).alloc b).alloc c).alloc d).alloc e).alloc f).heap[w.heap.size+4]? =some e∧((((((w.alloc a).alloc b).alloc c).alloc d).alloc e).alloc f).heap[w.heap.size+5]? =some f:=by
 have s1:(w.alloc a).heap.size=w.heap.size+1:=by simp
 have s2:((w.alloc a).alloc b).heap.size=w.heap.size+2:=by simp
 have s3:(((w.alloc a).alloc b).alloc c).heap.size=w.heap.size+3:=by simp
 have s4:((((w.alloc a).alloc b).alloc c).alloc d).heap.size=w.heap.size+4:=by simp
 have s5:(((((w.alloc a).alloc b).alloc c).alloc d).alloc e).heap.size=w.heap.size+5:=by simp
 have k0:(w.alloc a).heap[w.heap.size]? =some a:=blk_new _ _;have k1:((w.alloc a).alloc b).heap[w.heap.size+1]? =some b:=by rw[←s1];exact blk_new _ _
 have k2:(((w.alloc a).alloc b).alloc c).heap[w.heap.size+2]? =some c:=by rw[←s2];exact blk_new _ _
 have k3:((((w.alloc a).alloc b).alloc c).alloc d).heap[w.heap.size+3]? =some d:=by rw[←s3];exact blk_new _ _
 have k4:(((((w.alloc a).alloc b).alloc c).alloc d).alloc e).heap[w.heap.size+4]? =some e:=by rw[←s4];exact blk_new _ _
 have o:∀ {W:World} {x:Obj} {i:Nat} {y:Obj},W.heap[i]? =some y→i<W.heap.size→(W.alloc x).heap[i]? =some y:=fun h hi=>(heap_alloc_old _ _ hi).trans h;refine⟨?_,?_,?_,?_,?_,by rw[←s5];exact blk_new _ _⟩
 ·exact o (o (o (o (o k0 (by omega)) (by omega)) (by omega)) (by omega)) (by omega)
 ·exact o (o (o (o k1 (by omega)) (by omega)) (by omega)) (by omega)
 ·exact o (o (o k2 (by omega)) (by omega)) (by omega)
 ·exact o (o k3 (by omega)) (by omega)
 ·exact o k4 (by omega)
def wObjs (w:World)(pl:Pl):World:=(((((w.alloc (.cells #[.int .i64 pl.rest,.int .i64 pl.stay,.int .i64 pl.times,.bool pl.rd] 34)).alloc (.cells #[.int .i64 (-1)] 3)).alloc (.cells #[.int .i64 0] 3)).alloc (.cells #[.int .i64 0] 3)).alloc (.cells #[.int .i64 (lockW pl.rd)] 3)).alloc (.cells #[.int .i64 (unlockW pl.rd)] 3)
theorem wobjs_below (w:World)(pl:Pl):Below w.heap.size w (wObjs w pl)∧(wObjs w pl).heap.size=w.heap.size+6:=
 ⟨((((((below_new _ _).alloc (by simp) _).alloc (by simp;omega) _).alloc (by simp;omega) _).alloc (by simp;omega) _).alloc (by simp;omega) _),by simp[wObjs]⟩
theorem wobjs_clo (w:World)(pl:Pl):CloAt (wObjs w pl) w.heap.size pl mi0:=by
 obtain⟨h0,h1,h2,h3,h4,h5⟩:=six w (.cells #[.int .i64 pl.rest,.int .i64 pl.stay,.int .i64 pl.times,.bool pl.rd] 34) (.cells #[.int .i64 (-1)] 3) (.cells #[.int .i64 0] 3) (.cells #[.int .i64 0] 3) (.cells #[.int .i64 (lockW pl.rd)] 3) (.cells #[.int .i64 (unlockW pl.rd)] 3);exact⟨h0,h1,h2,h3,h4,h5⟩
theorem wants_any (pl:Pl)(w:World):Calls Tryz.prog 21 #[.agg #[.int .i64 pl.rest,.int .i64 pl.stay,.int .i64 pl.times,.bool pl.rd]] w fun e w'=>e= .returned (clo w.heap.size)∧CloAt w' w.heap.size pl mi0∧Below w.heap.size w w'∧w.heap.size+6≤w'.heap.size:=by
 have hmf:∀(fn:Fn) (first cap:Array Value) (w:World),(Instr.makeFunc fn first cap).run Tryz.prog w= .ok (.func fn first cap) w:=fun _ _ _ _=>rfl;obtain⟨pr,ps,pt,pd⟩:=pl;have HC:=Lib.hid (wobjs_clo w ⟨pr,ps,pt,pd⟩);have HB:=Lib.hid (wobjs_below w ⟨pr,ps,pt,pd⟩);cases pd
 all_goals
  go_enter Tryz.func21,Tryz.ntmps21;go_wp2_with fail;go_ret;exact⟨rfl,HC.out,HB.out.1,by have:=HB.out.2;unfold wObjs at this;exact Nat.le_of_eq this.symm⟩
def CloP (B:Nat)(w:World)(e:Ending)(w':World)(pl:Pl)(r:Int×Mi):Prop:=e= .returned (.int .i64 r.1)∧CloAt w' B pl r.2∧Mod [B+1,B+2,B+3] w w'
theorem CloP.of {B:Nat}{pl:Pl}{w w':World}{e:Ending}{r r':Int×Mi}(h:r=r')(he:e= .returned (.int .i64 r'.1))(hk:CloAt w' B pl r'.2)(hm:Mod [B+1,B+2,B+3] w w'):CloP B w e w' pl r:=by
 subst h;exact⟨he,hk,hm⟩
theorem wt_lock {pr ps pt was as_ st:Int}{pd:Bool}(h1:st=0)(h2:as_<pt)(h3:pr≤was):wantT ⟨pr,ps,pt,pd⟩ was as_ st=(lockW pd,⟨was+1,as_+1,st⟩):=by
 unfold wantT;exact if_pos ⟨h1,h2,h3⟩
theorem wt_unlock {pr ps pt was as_ st:Int}{pd:Bool}(h1:st=2)(h2:ps≤was):wantT ⟨pr,ps,pt,pd⟩ was as_ st=(unlockW pd,⟨was+1,as_,st⟩):=by
 unfold wantT;rw[if_neg (fun h=>by have:=h.1;omega)];exact if_pos ⟨h1,h2⟩
theorem wt_step {pr ps pt was as_ st:Int}{pd:Bool}(h1:¬(st=0∧as_<pt∧pr≤was))(h2:¬(st=2∧ps≤was)):wantT ⟨pr,ps,pt,pd⟩ was as_ st=(0,⟨was+1,as_,st⟩):=by
 unfold wantT;rw[if_neg h1,if_neg h2]
end Go.Proofs.YtfmiioddhpkdkaaGreat.Wq
namespace Go.Proofs.YtfmiioddhpkdkaaGreat.Wq
open Go.RowKit Ara Lok Wn
section
variable(B:Nat)(pl:Pl)(x:Mi)(w:World)(K:CloAt w B pl x)
include K
theorem clo_any (h0:0≤x.pk∧x.pk≤1000000)(h1:0≤x.as_∧x.as_≤1000000)(state:Int):Calls Tryz.prog 42 #[.int .i64 state,.pointer (some ⟨B+1,0,none⟩),.pointer (some ⟨B+2,0,none⟩),.pointer (some ⟨B+3,0,none⟩),.pointer (some ⟨B,0,none⟩),.pointer (some ⟨B+4,0,none⟩),.pointer (some ⟨B+5,0,none⟩)] w fun e w'=>CloP B w e w' pl (wantS pl x state):=by
 obtain⟨pr,ps,pt,pd⟩:=pl;obtain⟨xp,xa,xw⟩:=x;simp only at h0 h1;have w1:IntKind.i64.wrap (xp+1)=xp+1:=IntWalk.i64_in _ (by omega);have w2:IntKind.i64.wrap (xa+1)=xa+1:=IntWalk.i64_in _ (by omega);by_cases hs:state=xw
 ·subst hs
  have HW:=Lib.hid (show wantS ⟨pr,ps,pt,pd⟩ ⟨xp,xa,state⟩ state=wantT ⟨pr,ps,pt,pd⟩ xp xa state by unfold wantS;rw[if_pos rfl]);have HK1:=Lib.hid (K.pk (xp+1));have HM1:=Lib.hid (show Mod [B+1,B+2,B+3] w _ from(Mod.refl _ w).setCell (p:=⟨B+2,0,none⟩) (by simp) (.int .i64 (xp+1)));have HK2:=Lib.hid (HK1.out.asks (xa+1));have HM2:=Lib.hid (show Mod [B+1,B+2,B+3] w _ from HM1.out.setCell (p:=⟨B+3,0,none⟩) (by simp) (.int .i64 (xa+1)));obtain⟨_,⟨c1,c2,c3,c4,c5⟩,f1,f2,f3⟩:=K.cells;obtain⟨⟨d0,d1,d2⟩,⟨d3,d4,d5,d6,d7⟩,e1,e2,e3⟩:=HK1.out.cells;obtain⟨_,⟨k3,k4,k5,k6,k7⟩,_⟩:=HK2.out.cells;simp only at c1 c2 c3 c4 c5 d0 d1 d2 d3 d4 d5 d6 d7 k6 k7;clear K k3 k4 k5;go_enter Tryz.func42,Tryz.ntmps42;go_wp2_with fail
  all_goals
   try subst_vars
   go_ret
   first
    |exact CloP.of (HW.out.trans (wt_lock (by omega) (by omega) (by omega))) rfl HK2.out HM2.out
    |exact CloP.of (HW.out.trans (wt_unlock (by omega) (by omega))) rfl HK1.out HM1.out
    |exact CloP.of (HW.out.trans (wt_step (by omega) (by omega))) rfl HK1.out HM1.out
 ·have HW:=Lib.hid (show wantS ⟨pr,ps,pt,pd⟩ ⟨xp,xa,xw⟩ state=wantT ⟨pr,ps,pt,pd⟩ 0 xa state by unfold wantS;rw[if_neg hs])
  have HK1:=Lib.hid (((K.was state).pk 0).pk (0+1));have HM1:=Lib.hid (show Mod [B+1,B+2,B+3] w _ from(((Mod.refl _ w).setCell (p:=⟨B+1,0,none⟩) (by simp) (.int .i64 state)).setCell (p:=⟨B+2,0,none⟩) (by simp) (.int .i64 0)).setCell (p:=⟨B+2,0,none⟩) (by simp) (.int .i64 (0+1)));have HK2:=Lib.hid (HK1.out.asks (xa+1));have HM2:=Lib.hid (show Mod [B+1,B+2,B+3] w _ from HM1.out.setCell (p:=⟨B+3,0,none⟩) (by simp) (.int .i64 (xa+1)));obtain⟨_,⟨c1,c2,c3,c4,c5⟩,f1,f2,f3⟩:=K.cells;obtain⟨_,⟨g1,g2,g3,g4,g5⟩,k1,k2,k3⟩:=((K.was state).pk 0).cells;obtain⟨⟨d0,d1,d2⟩,⟨d3,d4,d5,d6,d7⟩,e1,e2,e3⟩:=HK1.out.cells;obtain⟨_,⟨_,_,_,k6,k7⟩,_⟩:=HK2.out.cells;obtain⟨_,_,m1,m2,m3⟩:=(K.was state).cells;simp only at c1 c2 c3 c4 c5 g1 g2 g3 d0 d1 d2 d3 d4 d5 d6 d7 k6 k7;have e0:=ibne hs;clear K hs;go_enter Tryz.func42,Tryz.ntmps42;go_wp2_with fail
  all_goals
   try subst_vars
   go_ret
   first
    |exact CloP.of (HW.out.trans (wt_lock (by omega) (by omega) (by omega))) rfl HK2.out HM2.out
    |exact CloP.of (HW.out.trans (wt_unlock (by omega) (by omega))) rfl HK1.out HM1.out
    |exact CloP.of (HW.out.trans (wt_step (by omega) (by omega))) rfl HK1.out HM1.out
end
end Go.Proofs.YtfmiioddhpkdkaaGreat.Wq
namespace Go.Proofs.YtfmiioddhpkdkaaGreat.Wq
open Go.RowKit Go.Maps
abbrev kI (t:Int):Lit:= .int .i64 t
theorem kI_ne {a b:Int}(h:a≠b):kI a≠kI b:=by
 intro e;injection e with _ e;exact h e
theorem isK_kI (t:Int):WideAt.IsKeyLit (kI t):=by simp[WideAt.IsKeyLit]
theorem lawI:Keyed Tryz.prog 3:=int_keyed Tryz.underlying3
theorem zeroF (w:World):(zeroValue 72).run Tryz.prog w= .ok .nilFunc w:=by kernel_rfl
theorem clo_inj {a b:Nat}(h:clo a=clo b):a=b:=by
 unfold clo at h;simp at h;exact h
open Classical in
noncomputable def funR (v:Value):Option (DataW Unit×List MemPlace):=if v= .nilFunc then some (.nil,[])else if h:∃B,v=clo B then some (.lit (.int .i64 ((h.choose:Nat):Int)),[])else none
theorem funR_nil:funR .nilFunc=some (.nil,[]):=by unfold funR;rw[if_pos rfl]
theorem funR_clo (B:Nat):funR (clo B)=some (.lit (.int .i64 (B:Int)),[]):=by
 have hne:clo B≠ .nilFunc:=by unfold clo;simp
 have hex:∃B',clo B=clo B':=⟨B,rfl⟩;unfold funR;rw[if_neg hne,dif_pos hex];have:=clo_inj hex.choose_spec;rw[←this]
theorem funR_inv_nil {v:Value}{ps:List MemPlace}(h:funR v=some (.nil,ps)):v= .nilFunc:=by
 unfold funR at h;split at h
 ·assumption
 ·split at h<;>simp at h
theorem funR_inv {v:Value}{B:Nat}{ps:List MemPlace}(h:funR v=some (.lit (.int .i64 (B:Int)),ps)):v=clo B:=by
 unfold funR at h;split at h
 ·simp at h
 ·split at h
  ·rename_i hx
   have hs:=hx.choose_spec;simp at h;have:hx.choose=B:=by omega
   rw[this]at hs;exact hs
  ·simp at h
def FM (W:World)(mb n:Nat)(F:Int→Option Nat):Prop:=
 ∃D,W.ownsMap Tryz.prog 3 funR mb n D∧∀t,(F t=none→Maps.has D (kI t)=false)∧∀B,F t=some B→∀z,D.atKey (kI t) z= .lit (.int .i64 (B:Int))
theorem FM.made (w:World):FM (w.alloc (.map #[] 0)) w.heap.size 0 fun _=>none:=⟨_,World.ownsMap_made _ _ _ _,fun _=>⟨fun _=>rfl,fun _ h=>by cases h⟩⟩
theorem FM.blk {W W':World}{mb n:Nat}{F:Int→Option Nat}(h:FM W mb n F)(hb:W'.heap[mb]? =W.heap[mb]?):FM W' mb n F:=by
 obtain⟨D,⟨es,clock,h1,h2⟩,h3⟩:=h;exact⟨D,⟨es,clock,hb.trans h1,h2⟩,h3⟩
theorem FM.lt {W:World}{mb n:Nat}{F:Int→Option Nat}(h:FM W mb n F):mb<W.heap.size:=by
 obtain⟨D,h1,_⟩:=h;exact h1.lt
theorem FM.mod {S:List Nat}{W W':World}{mb n:Nat}{F:Int→Option Nat}(h:FM W mb n F)(hm:Mod S W W')(hs:mb∉S):FM W' mb n F:=h.blk (hm.block mb h.lt hs)
def isI (t:Int):Prop:=(Lit.int .i64 t).wf=true
theorem FM.look0 {W:World}{mb n:Nat}{F:Int→Option Nat}(h:FM W mb n F){t:Int}(hw:isI t)(hF:F t=none):(Instr.lookup 71 (.map (some mb)) (.int .i64 t) true).run Tryz.prog W= .ok (.tuple #[.nilFunc,.bool false]) W:=by
 obtain⟨D,h1,h2⟩:=h;obtain⟨v,ps,hr,hv⟩:=h1.look_ok lawI (e:=72) Tryz.underlying71 (zeroF _) funR_nil (keyOf_int_mk Tryz.underlying3 hw);rw[atKey_of_not_has ((h2 t).1 hF)]at hv;rw[funR_inv_nil hv,(h2 t).1 hF]at hr;exact hr
theorem FM.look1 {W:World}{mb n:Nat}{F:Int→Option Nat}(h:FM W mb n F){t:Int}(hw:isI t){B:Nat}(hF:F t=some B):(Instr.lookup 71 (.map (some mb)) (.int .i64 t) true).run Tryz.prog W= .ok (.tuple #[clo B,.bool true]) W:=by
 obtain⟨D,h1,h2⟩:=h;obtain⟨v,ps,hr,hv⟩:=h1.look_ok lawI (e:=72) Tryz.underlying71 (zeroF _) funR_nil (keyOf_int_mk Tryz.underlying3 hw);rw[(h2 t).2 B hF]at hv;rw[funR_inv hv,Maps.has_true_of_atKey ((h2 t).2 B hF)]at hr;exact hr
theorem FM.put {W:World}{mb n:Nat}{F:Int→Option Nat}(h:FM W mb n F)(hn:n<1000000){t:Int}(hw:isI t)(B:Nat):∃W',(Instr.mapUpdate 71 (.map (some mb)) (.int .i64 t) (clo B)).run Tryz.prog W= .ok () W'∧FM W' mb (n+1) (fun u=>if u=t then some B else F u)∧Mod [mb] W W':=by
 obtain⟨D,h1,h2⟩:=h;obtain⟨W',hr,ho,ht⟩:=h1.store lawI (e:=72) Tryz.underlying71 (by unfold maxLen;omega) (keyOf_int_mk Tryz.underlying3 hw) (funR_clo B);refine⟨W',hr,⟨_,ho,fun u=> ?_⟩,⟨ht.grown.os,ht.grown.tape,ht.grown.output,ht.grown.size,fun k hk hx=>ht.grown.block k hk (fun e=>hx (by injection e with e;simp[e]))⟩⟩;by_cases e:u=t
 ·subst e
  refine⟨fun h=>by simp at h,fun B' h z=> ?_⟩;simp at h;subst h;exact atKey_put_same h1.isMap (isK_kI _) _ _
 ·refine⟨fun h=> ?_,fun B' h z=> ?_⟩
  ·simp only[if_neg e]at h
   rw[has_put_other (kI_ne e)];exact(h2 u).1 h
  ·simp only[if_neg e]at h
   rw[atKey_put_other (kI_ne e)];exact(h2 u).2 B' h z
end Go.Proofs.YtfmiioddhpkdkaaGreat.Wq
namespace Go.Proofs.YtfmiioddhpkdkaaGreat.Sp
end Go.Proofs.YtfmiioddhpkdkaaGreat.Sp
