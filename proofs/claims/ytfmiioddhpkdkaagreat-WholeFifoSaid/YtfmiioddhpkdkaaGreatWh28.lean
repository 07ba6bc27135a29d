/- Merged texts: Wo4, Lk3, WoF, WoG, WoI, WoC. -/
import Derived.Test.YtfmiioddhpkdkaaGreatWh27
set_option linter.unusedVariables false
set_option linter.unusedSimpArgs false
namespace Go.Proofs.YtfmiioddhpkdkaaGreat.Wo
open Go.RowKit Go.Proofs.YtfmiioddhpkdkaaGreat.Ara Go.Proofs.YtfmiioddhpkdkaaGreat.Lok Go.Proofs.YtfmiioddhpkdkaaGreat.Ga Go.Proofs.YtfmiioddhpkdkaaGreat.Wf
section
variable {gw ga gt gl:Nat}{X:Type}{D:LD X}{At:Nat→World→X→Prop}{may:Bool→Prop}{S:List Nat}{L:Nat}{k:Nat}{w:World}{x:X}(hG:LI gl D At may S L)(K:WoA gw ga gt gl D At S L k w x)
include hG K
set_option maxHeartbeats 4000000 in
set_option maxRecDepth 100000 in
theorem do_out (t wn:Int)(ht:t<0∨(D.N:Int)≤t):Calls Tryz.prog 11 #[.pointer (some ⟨gw,0,none⟩),.agg #[.int .i64 t,.int .i64 wn]] w (WAft gw ga gt gl D At S L k w ((0,0,false,0),x)):=by
 unfold WAft;have hb1:Below w.heap.size w (w.alloc (.cells #[.int .i64 t,.int .i64 wn] 47)):=below_new _ _;have hb2:Below w.heap.size w ((w.alloc (.cells #[.int .i64 t,.int .i64 wn] 47)).alloc (.cells #[.int .i64 0,.int .i64 0,.bool false,.int .i64 0] 44)):=hb1.alloc hb1.size _;have HE:=Lib.hid (show((w.alloc (.cells #[.int .i64 t,.int .i64 wn] 47)).alloc (.cells #[.int .i64 0,.int .i64 0,.bool false,.int .i64 0] 44)).heap[w.heap.size+1]? =some (.cells #[.int .i64 0,.int .i64 0,.bool false,.int .i64 0] 44) from by simpa using blk_new (w.alloc (.cells #[.int .i64 t,.int .i64 wn] 47)) (.cells #[.int .i64 0,.int .i64 0,.bool false,.int .i64 0] 44));have HP:=Lib.hid (show((w.alloc (.cells #[.int .i64 t,.int .i64 wn] 47)).alloc (.cells #[.int .i64 0,.int .i64 0,.bool false,.int .i64 0] 44)).heap[w.heap.size]? =some (.cells #[.int .i64 t,.int .i64 wn] 47) from(heap_alloc_old _ _ (by simp)).trans (blk_new _ _));have hK:=K.same hG hb2;have HT:=Lib.hid (fun n=>threads_wo hG (hK.drewN hG n));have HK:=Lib.hid hK;have HG:=Lib.hid hG;have hL:=K.sz;have HM:=Lib.hid (Mod.of_below (S:=S) hb2);clear K hK hb1 hb2 hG;by_cases h0:t<0
 ·clear HT ht
  have HT:=Lib.hid trivial;go_enter Tryz.func11,Tryz.ntmps11;go_wp2_with fail;go_quiet(fail);have HK2:=Lib.hid (HK.out.drewN HG.out nq);have HM2:=Lib.hid (HM.out.drewN nq);have HE2:=Lib.hid (show(((w.alloc (.cells #[.int .i64 t,.int .i64 wn] 47)).alloc (.cells #[.int .i64 0,.int .i64 0,.bool false,.int .i64 0] 44)).drewN nq).heap[w.heap.size+1]? =some (.cells #[.int .i64 0,.int .i64 0,.bool false,.int .i64 0] 44) from HE.out);have HP2:=Lib.hid (show(((w.alloc (.cells #[.int .i64 t,.int .i64 wn] 47)).alloc (.cells #[.int .i64 0,.int .i64 0,.bool false,.int .i64 0] 44)).drewN nq).heap[w.heap.size]? =some (.cells #[.int .i64 t,.int .i64 wn] 47) from HP.out);have HZ2:=Lib.hid (show w.heap.size≤(((w.alloc (.cells #[.int .i64 t,.int .i64 wn] 47)).alloc (.cells #[.int .i64 0,.int .i64 0,.bool false,.int .i64 0] 44)).drewN nq).heap.size from HM2.out.size);clear HK HM HE HP HT;generalize((w.alloc (.cells #[.int .i64 t,.int .i64 wn] 47)).alloc (.cells #[.int .i64 0,.int .i64 0,.bool false,.int .i64 0] 44)).drewN nq=W2 at*;have c0:=blk_cell HP2.out 0 (by simp);have c1:=blk_cell HP2.out 1 (by simp);simp only[List.getElem_toArray,List.getElem_cons_zero,List.getElem_cons_succ]at c0 c1;have HK4:=Lib.hid (HK2.out.up HG.out);have d0:=blk_cell HE2.out 0 (by simp);have d1:=blk_cell HE2.out 1 (by simp);have d2:=blk_cell HE2.out 2 (by simp);have d3:=blk_cell HE2.out 3 (by simp);simp only[List.getElem_toArray,List.getElem_cons_zero,List.getElem_cons_succ]at d0 d1 d2 d3;have f0:=blk_free HE2.out 0;have f1:=blk_free HE2.out 1;have f2:=blk_free HE2.out 2;have f3:=blk_free HE2.out 3;have k0:=blk_set HE2.out 0 (.int .i64 (0));have k1:=blk_set k0 1 (.int .i64 (0));have k2:=blk_set k1 2 (.bool false);have k3:=blk_set k2 3 (.int .i64 (0));have g0:=blk_cell k0 0 (by simp);have g1:=blk_cell k1 1 (by simp);have g2:=blk_cell k2 2 (by simp);have g3:=blk_cell k3 3 (by simp);simp at g0 g1 g2 g3;clear k0 k1 k2 k3;go_wp2_with fail;refine bodyPost_ret (v:=wev (0,0,false,0)) ?_ rfl ⟨rfl,?_⟩
  ·simp[wev,results,Tryz.results11,go_sem,g0,g1,g2,g3]
  ·exact WoA.fin HG.out hL HK4.out HM2.out (q:=w.heap.size+1) (Nat.le_succ _) (((((Mod.refl [w.heap.size+1] _).setCell (by simp) _).setCell (by simp) _).setCell (by simp) _).setCell (by simp) _)
 ·have h1:(D.N:Int)≤t:=by omega
  have h2:decide (t<0)=false:=decide_eq_false h0;clear ht;go_enter Tryz.func11,Tryz.ntmps11;go_wp2_with fail;go_quiet((go_at_call 24;exact Calls.quiet_of_same (HT.out _)));have HK2:=Lib.hid (HK.out.drewN HG.out nq);have HM2:=Lib.hid (HM.out.drewN nq);have HE2:=Lib.hid (show(((w.alloc (.cells #[.int .i64 t,.int .i64 wn] 47)).alloc (.cells #[.int .i64 0,.int .i64 0,.bool false,.int .i64 0] 44)).drewN nq).heap[w.heap.size+1]? =some (.cells #[.int .i64 0,.int .i64 0,.bool false,.int .i64 0] 44) from HE.out);have HP2:=Lib.hid (show(((w.alloc (.cells #[.int .i64 t,.int .i64 wn] 47)).alloc (.cells #[.int .i64 0,.int .i64 0,.bool false,.int .i64 0] 44)).drewN nq).heap[w.heap.size]? =some (.cells #[.int .i64 t,.int .i64 wn] 47) from HP.out);have HZ2:=Lib.hid (show w.heap.size≤(((w.alloc (.cells #[.int .i64 t,.int .i64 wn] 47)).alloc (.cells #[.int .i64 0,.int .i64 0,.bool false,.int .i64 0] 44)).drewN nq).heap.size from HM2.out.size);clear HK HM HE HP HT;generalize((w.alloc (.cells #[.int .i64 t,.int .i64 wn] 47)).alloc (.cells #[.int .i64 0,.int .i64 0,.bool false,.int .i64 0] 44)).drewN nq=W2 at*;have c0:=blk_cell HP2.out 0 (by simp);have c1:=blk_cell HP2.out 1 (by simp);simp only[List.getElem_toArray,List.getElem_cons_zero,List.getElem_cons_succ]at c0 c1;have HK4:=Lib.hid (HK2.out.up HG.out);have d0:=blk_cell HE2.out 0 (by simp);have d1:=blk_cell HE2.out 1 (by simp);have d2:=blk_cell HE2.out 2 (by simp);have d3:=blk_cell HE2.out 3 (by simp);simp only[List.getElem_toArray,List.getElem_cons_zero,List.getElem_cons_succ]at d0 d1 d2 d3;have f0:=blk_free HE2.out 0;have f1:=blk_free HE2.out 1;have f2:=blk_free HE2.out 2;have f3:=blk_free HE2.out 3;have k0:=blk_set HE2.out 0 (.int .i64 (0));have k1:=blk_set k0 1 (.int .i64 (0));have k2:=blk_set k1 2 (.bool false);have k3:=blk_set k2 3 (.int .i64 (0));have g0:=blk_cell k0 0 (by simp);have g1:=blk_cell k1 1 (by simp);have g2:=blk_cell k2 2 (by simp);have g3:=blk_cell k3 3 (by simp);simp at g0 g1 g2 g3;clear k0 k1 k2 k3;go_wp2_with fail;refine bodyPost_ret (v:=wev (0,0,false,0)) ?_ rfl ⟨rfl,?_⟩
  ·simp[wev,results,Tryz.results11,go_sem,g0,g1,g2,g3]
  ·exact WoA.fin HG.out hL HK4.out HM2.out (q:=w.heap.size+1) (Nat.le_succ _) (((((Mod.refl [w.heap.size+1] _).setCell (by simp) _).setCell (by simp) _).setCell (by simp) _).setCell (by simp) _)
set_option maxHeartbeats 4000000 in
set_option maxRecDepth 100000 in
theorem do_in (t wn:Int)(hk:k<1000)(ht:¬(t<0∨(D.N:Int)≤t))(hm1:wn=1→may false)(hm3:wn=3→D.sh=true→may true)(r:Ev4×X)
 (hw:(if wn=0 then wstep D x t else if wn=1 then wask D x t false else if wn=3 then wask D x t true else if wn=2 then wleave D x t false else if wn=4 then wleave D x t true else((5,t,D.rd x t,0),x))=r):
 Calls Tryz.prog 11 #[.pointer (some ⟨gw,0,none⟩),.agg #[.int .i64 t,.int .i64 wn]] w (WAft gw ga gt gl D At S L k w r):=by
 obtain⟨⟨ek,et,er,ec⟩,x2⟩:=r;unfold WAft;have hr0:¬t<0:=by omega
 have hr1:¬(D.N:Int)≤t:=by omega
 have hr2:decide (t<0)=false:=decide_eq_false hr0;have hr3:decide ((D.N:Int)≤t)=false:=decide_eq_false hr1;have hr4:0≤t:=by omega
 have hr5:t<(D.N:Int):=by omega
 clear ht;have hb1:Below w.heap.size w (w.alloc (.cells #[.int .i64 t,.int .i64 wn] 47)):=below_new _ _;have hb2:Below w.heap.size w ((w.alloc (.cells #[.int .i64 t,.int .i64 wn] 47)).alloc (.cells #[.int .i64 0,.int .i64 0,.bool false,.int .i64 0] 44)):=hb1.alloc hb1.size _;have HE:=Lib.hid (show((w.alloc (.cells #[.int .i64 t,.int .i64 wn] 47)).alloc (.cells #[.int .i64 0,.int .i64 0,.bool false,.int .i64 0] 44)).heap[w.heap.size+1]? =some (.cells #[.int .i64 0,.int .i64 0,.bool false,.int .i64 0] 44) from by simpa using blk_new (w.alloc (.cells #[.int .i64 t,.int .i64 wn] 47)) (.cells #[.int .i64 0,.int .i64 0,.bool false,.int .i64 0] 44));have HP:=Lib.hid (show((w.alloc (.cells #[.int .i64 t,.int .i64 wn] 47)).alloc (.cells #[.int .i64 0,.int .i64 0,.bool false,.int .i64 0] 44)).heap[w.heap.size]? =some (.cells #[.int .i64 t,.int .i64 wn] 47) from(heap_alloc_old _ _ (by simp)).trans (blk_new _ _));have hK:=K.same hG hb2;have HT:=Lib.hid (fun n=>threads_wo hG (hK.drewN hG n));have HK:=Lib.hid hK;have HG:=Lib.hid hG;have hL:=K.sz;have HM:=Lib.hid (Mod.of_below (S:=S) hb2);clear K hK hb1 hb2 hG;replace hw:=Lib.hid hw;by_cases h0:wn=0
 ·subst h0
  have hw2:=hw.out;rw[if_pos rfl]at hw2;have HC:=fun W (K:WoA gw ga gt gl D At S L k W x)=>hw2▸step_wo HG.out K t hk hr4 hr5;unfold WAft at HC;clear hw hw2 hm1 hm3;go_enter Tryz.func11,Tryz.ntmps11;go_wp2_with fail;go_quiet((go_at_call 24;exact Calls.quiet_of_same (HT.out _)));have HK2:=Lib.hid (HK.out.drewN HG.out nq);have HM2:=Lib.hid (HM.out.drewN nq);have HE2:=Lib.hid (show(((w.alloc (.cells #[.int .i64 t,.int .i64 0] 47)).alloc (.cells #[.int .i64 0,.int .i64 0,.bool false,.int .i64 0] 44)).drewN nq).heap[w.heap.size+1]? =some (.cells #[.int .i64 0,.int .i64 0,.bool false,.int .i64 0] 44) from HE.out);have HP2:=Lib.hid (show(((w.alloc (.cells #[.int .i64 t,.int .i64 0] 47)).alloc (.cells #[.int .i64 0,.int .i64 0,.bool false,.int .i64 0] 44)).drewN nq).heap[w.heap.size]? =some (.cells #[.int .i64 t,.int .i64 0] 47) from HP.out);have HZ2:=Lib.hid (show w.heap.size≤(((w.alloc (.cells #[.int .i64 t,.int .i64 0] 47)).alloc (.cells #[.int .i64 0,.int .i64 0,.bool false,.int .i64 0] 44)).drewN nq).heap.size from HM2.out.size);clear HK HM HE HP HT;generalize((w.alloc (.cells #[.int .i64 t,.int .i64 0] 47)).alloc (.cells #[.int .i64 0,.int .i64 0,.bool false,.int .i64 0] 44)).drewN nq=W2 at*;have c0:=blk_cell HP2.out 0 (by simp);have c1:=blk_cell HP2.out 1 (by simp);simp only[List.getElem_toArray,List.getElem_cons_zero,List.getElem_cons_succ]at c0 c1;go_wp2_with fail;refine(HC _ HK2.out).mono ?_;rintro e w4 ⟨rfl,hk4,hm4⟩;have hlt:∀q∈S,q<L:=HG.out.lt;have HE4:=Lib.hid (hm4.blk HE2.out (fun h=>by have:=hlt _ h;omega));have HK4:=Lib.hid hk4;have HM4:=Lib.hid (HM2.out.trans hm4);clear hk4 hm4 HK2 HE2 HP2 HM2 c0 c1 hlt HC;simp only[wev];have d0:=blk_cell HE4.out 0 (by simp);have d1:=blk_cell HE4.out 1 (by simp);have d2:=blk_cell HE4.out 2 (by simp);have d3:=blk_cell HE4.out 3 (by simp);simp only[List.getElem_toArray,List.getElem_cons_zero,List.getElem_cons_succ]at d0 d1 d2 d3;have f0:=blk_free HE4.out 0;have f1:=blk_free HE4.out 1;have f2:=blk_free HE4.out 2;have f3:=blk_free HE4.out 3;have k0:=blk_set HE4.out 0 (.int .i64 (ek));have k1:=blk_set k0 1 (.int .i64 (et));have k2:=blk_set k1 2 (.bool er);have k3:=blk_set k2 3 (.int .i64 (ec));have g0:=blk_cell k0 0 (by simp);have g1:=blk_cell k1 1 (by simp);have g2:=blk_cell k2 2 (by simp);have g3:=blk_cell k3 3 (by simp);simp at g0 g1 g2 g3;clear k0 k1 k2 k3;go_wp2_with fail;refine bodyPost_ret (v:=wev (ek,et,er,ec)) ?_ rfl ⟨rfl,?_⟩
  ·simp[wev,results,Tryz.results11,go_sem,g0,g1,g2,g3]
  ·exact WoA.fin HG.out hL HK4.out HM4.out (q:=w.heap.size+1) (Nat.le_succ _) (((((Mod.refl [w.heap.size+1] _).setCell (by simp) _).setCell (by simp) _).setCell (by simp) _).setCell (by simp) _)
 by_cases h1:wn=1
 ·subst h1
  have hw2:=hw.out;rw[if_neg (by decide),if_pos rfl]at hw2;have HC:=fun W (K:WoA gw ga gt gl D At S L k W x)=>hw2▸asks_wo HG.out K t false hk hr4 hr5 (fun _=>hm1 rfl);unfold WAft at HC;clear hw hw2 hm1 hm3;go_enter Tryz.func11,Tryz.ntmps11;go_wp2_with fail;go_quiet((go_at_call 24;exact Calls.quiet_of_same (HT.out _)));have HK2:=Lib.hid (HK.out.drewN HG.out nq);have HM2:=Lib.hid (HM.out.drewN nq);have HE2:=Lib.hid (show(((w.alloc (.cells #[.int .i64 t,.int .i64 1] 47)).alloc (.cells #[.int .i64 0,.int .i64 0,.bool false,.int .i64 0] 44)).drewN nq).heap[w.heap.size+1]? =some (.cells #[.int .i64 0,.int .i64 0,.bool false,.int .i64 0] 44) from HE.out);have HP2:=Lib.hid (show(((w.alloc (.cells #[.int .i64 t,.int .i64 1] 47)).alloc (.cells #[.int .i64 0,.int .i64 0,.bool false,.int .i64 0] 44)).drewN nq).heap[w.heap.size]? =some (.cells #[.int .i64 t,.int .i64 1] 47) from HP.out);have HZ2:=Lib.hid (show w.heap.size≤(((w.alloc (.cells #[.int .i64 t,.int .i64 1] 47)).alloc (.cells #[.int .i64 0,.int .i64 0,.bool false,.int .i64 0] 44)).drewN nq).heap.size from HM2.out.size);clear HK HM HE HP HT;generalize((w.alloc (.cells #[.int .i64 t,.int .i64 1] 47)).alloc (.cells #[.int .i64 0,.int .i64 0,.bool false,.int .i64 0] 44)).drewN nq=W2 at*;have c0:=blk_cell HP2.out 0 (by simp);have c1:=blk_cell HP2.out 1 (by simp);simp only[List.getElem_toArray,List.getElem_cons_zero,List.getElem_cons_succ]at c0 c1;go_wp2_with fail;refine(HC _ HK2.out).mono ?_;rintro e w4 ⟨rfl,hk4,hm4⟩;have hlt:∀q∈S,q<L:=HG.out.lt;have HE4:=Lib.hid (hm4.blk HE2.out (fun h=>by have:=hlt _ h;omega));have HK4:=Lib.hid hk4;have HM4:=Lib.hid (HM2.out.trans hm4);clear hk4 hm4 HK2 HE2 HP2 HM2 c0 c1 hlt HC;simp only[wev];have d0:=blk_cell HE4.out 0 (by simp);have d1:=blk_cell HE4.out 1 (by simp);have d2:=blk_cell HE4.out 2 (by simp);have d3:=blk_cell HE4.out 3 (by simp);simp only[List.getElem_toArray,List.getElem_cons_zero,List.getElem_cons_succ]at d0 d1 d2 d3;have f0:=blk_free HE4.out 0;have f1:=blk_free HE4.out 1;have f2:=blk_free HE4.out 2;have f3:=blk_free HE4.out 3;have k0:=blk_set HE4.out 0 (.int .i64 (ek));have k1:=blk_set k0 1 (.int .i64 (et));have k2:=blk_set k1 2 (.bool er);have k3:=blk_set k2 3 (.int .i64 (ec));have g0:=blk_cell k0 0 (by simp);have g1:=blk_cell k1 1 (by simp);have g2:=blk_cell k2 2 (by simp);have g3:=blk_cell k3 3 (by simp);simp at g0 g1 g2 g3;clear k0 k1 k2 k3;go_wp2_with fail;refine bodyPost_ret (v:=wev (ek,et,er,ec)) ?_ rfl ⟨rfl,?_⟩
  ·simp[wev,results,Tryz.results11,go_sem,g0,g1,g2,g3]
  ·exact WoA.fin HG.out hL HK4.out HM4.out (q:=w.heap.size+1) (Nat.le_succ _) (((((Mod.refl [w.heap.size+1] _).setCell (by simp) _).setCell (by simp) _).setCell (by simp) _).setCell (by simp) _)
 by_cases h3:wn=3
 ·subst h3
  have hw2:=hw.out;rw[if_neg (by decide),if_neg (by decide),if_pos rfl]at hw2;have HC:=fun W (K:WoA gw ga gt gl D At S L k W x)=>hw2▸asks_wo HG.out K t true hk hr4 hr5 (fun h=>hm3 rfl (by simpa using h));unfold WAft at HC;clear hw hw2 hm1 hm3;go_enter Tryz.func11,Tryz.ntmps11;go_wp2_with fail;go_quiet((go_at_call 24;exact Calls.quiet_of_same (HT.out _)));have HK2:=Lib.hid (HK.out.drewN HG.out nq);have HM2:=Lib.hid (HM.out.drewN nq);have HE2:=Lib.hid (show(((w.alloc (.cells #[.int .i64 t,.int .i64 3] 47)).alloc (.cells #[.int .i64 0,.int .i64 0,.bool false,.int .i64 0] 44)).drewN nq).heap[w.heap.size+1]? =some (.cells #[.int .i64 0,.int .i64 0,.bool false,.int .i64 0] 44) from HE.out);have HP2:=Lib.hid (show(((w.alloc (.cells #[.int .i64 t,.int .i64 3] 47)).alloc (.cells #[.int .i64 0,.int .i64 0,.bool false,.int .i64 0] 44)).drewN nq).heap[w.heap.size]? =some (.cells #[.int .i64 t,.int .i64 3] 47) from HP.out);have HZ2:=Lib.hid (show w.heap.size≤(((w.alloc (.cells #[.int .i64 t,.int .i64 3] 47)).alloc (.cells #[.int .i64 0,.int .i64 0,.bool false,.int .i64 0] 44)).drewN nq).heap.size from HM2.out.size);clear HK HM HE HP HT;generalize((w.alloc (.cells #[.int .i64 t,.int .i64 3] 47)).alloc (.cells #[.int .i64 0,.int .i64 0,.bool false,.int .i64 0] 44)).drewN nq=W2 at*;have c0:=blk_cell HP2.out 0 (by simp);have c1:=blk_cell HP2.out 1 (by simp);simp only[List.getElem_toArray,List.getElem_cons_zero,List.getElem_cons_succ]at c0 c1;go_wp2_with fail;refine(HC _ HK2.out).mono ?_;rintro e w4 ⟨rfl,hk4,hm4⟩;have hlt:∀q∈S,q<L:=HG.out.lt;have HE4:=Lib.hid (hm4.blk HE2.out (fun h=>by have:=hlt _ h;omega));have HK4:=Lib.hid hk4;have HM4:=Lib.hid (HM2.out.trans hm4);clear hk4 hm4 HK2 HE2 HP2 HM2 c0 c1 hlt HC;simp only[wev];have d0:=blk_cell HE4.out 0 (by simp);have d1:=blk_cell HE4.out 1 (by simp);have d2:=blk_cell HE4.out 2 (by simp);have d3:=blk_cell HE4.out 3 (by simp);simp only[List.getElem_toArray,List.getElem_cons_zero,List.getElem_cons_succ]at d0 d1 d2 d3;have f0:=blk_free HE4.out 0;have f1:=blk_free HE4.out 1;have f2:=blk_free HE4.out 2;have f3:=blk_free HE4.out 3;have k0:=blk_set HE4.out 0 (.int .i64 (ek));have k1:=blk_set k0 1 (.int .i64 (et));have k2:=blk_set k1 2 (.bool er);have k3:=blk_set k2 3 (.int .i64 (ec));have g0:=blk_cell k0 0 (by simp);have g1:=blk_cell k1 1 (by simp);have g2:=blk_cell k2 2 (by simp);have g3:=blk_cell k3 3 (by simp);simp at g0 g1 g2 g3;clear k0 k1 k2 k3;go_wp2_with fail;refine bodyPost_ret (v:=wev (ek,et,er,ec)) ?_ rfl ⟨rfl,?_⟩
  ·simp[wev,results,Tryz.results11,go_sem,g0,g1,g2,g3]
  ·exact WoA.fin HG.out hL HK4.out HM4.out (q:=w.heap.size+1) (Nat.le_succ _) (((((Mod.refl [w.heap.size+1] _).setCell (by simp) _).setCell (by simp) _).setCell (by simp) _).setCell (by simp) _)
 by_cases h2:wn=2
 ·subst h2
  have hw2:=hw.out;rw[if_neg (by decide),if_neg (by decide),if_neg (by decide),if_pos rfl]at hw2;have HC:=fun W (K:WoA gw ga gt gl D At S L k W x)=>hw2▸leaves_wo HG.out K t false hk hr4 hr5;unfold WAft at HC;clear hw hw2 hm1 hm3;go_enter Tryz.func11,Tryz.ntmps11;go_wp2_with fail;go_quiet((go_at_call 24;exact Calls.quiet_of_same (HT.out _)));have HK2:=Lib.hid (HK.out.drewN HG.out nq);have HM2:=Lib.hid (HM.out.drewN nq);have HE2:=Lib.hid (show(((w.alloc (.cells #[.int .i64 t,.int .i64 2] 47)).alloc (.cells #[.int .i64 0,.int .i64 0,.bool false,.int .i64 0] 44)).drewN nq).heap[w.heap.size+1]? =some (.cells #[.int .i64 0,.int .i64 0,.bool false,.int .i64 0] 44) from HE.out);have HP2:=Lib.hid (show(((w.alloc (.cells #[.int .i64 t,.int .i64 2] 47)).alloc (.cells #[.int .i64 0,.int .i64 0,.bool false,.int .i64 0] 44)).drewN nq).heap[w.heap.size]? =some (.cells #[.int .i64 t,.int .i64 2] 47) from HP.out);have HZ2:=Lib.hid (show w.heap.size≤(((w.alloc (.cells #[.int .i64 t,.int .i64 2] 47)).alloc (.cells #[.int .i64 0,.int .i64 0,.bool false,.int .i64 0] 44)).drewN nq).heap.size from HM2.out.size);clear HK HM HE HP HT;generalize((w.alloc (.cells #[.int .i64 t,.int .i64 2] 47)).alloc (.cells #[.int .i64 0,.int .i64 0,.bool false,.int .i64 0] 44)).drewN nq=W2 at*;have c0:=blk_cell HP2.out 0 (by simp);have c1:=blk_cell HP2.out 1 (by simp);simp only[List.getElem_toArray,List.getElem_cons_zero,List.getElem_cons_succ]at c0 c1;go_wp2_with fail;refine(HC _ HK2.out).mono ?_;rintro e w4 ⟨rfl,hk4,hm4⟩;have hlt:∀q∈S,q<L:=HG.out.lt;have HE4:=Lib.hid (hm4.blk HE2.out (fun h=>by have:=hlt _ h;omega));have HK4:=Lib.hid hk4;have HM4:=Lib.hid (HM2.out.trans hm4);clear hk4 hm4 HK2 HE2 HP2 HM2 c0 c1 hlt HC;simp only[wev];have d0:=blk_cell HE4.out 0 (by simp);have d1:=blk_cell HE4.out 1 (by simp);have d2:=blk_cell HE4.out 2 (by simp);have d3:=blk_cell HE4.out 3 (by simp);simp only[List.getElem_toArray,List.getElem_cons_zero,List.getElem_cons_succ]at d0 d1 d2 d3;have f0:=blk_free HE4.out 0;have f1:=blk_free HE4.out 1;have f2:=blk_free HE4.out 2;have f3:=blk_free HE4.out 3;have k0:=blk_set HE4.out 0 (.int .i64 (ek));have k1:=blk_set k0 1 (.int .i64 (et));have k2:=blk_set k1 2 (.bool er);have k3:=blk_set k2 3 (.int .i64 (ec));have g0:=blk_cell k0 0 (by simp);have g1:=blk_cell k1 1 (by simp);have g2:=blk_cell k2 2 (by simp);have g3:=blk_cell k3 3 (by simp);simp at g0 g1 g2 g3;clear k0 k1 k2 k3;go_wp2_with fail;refine bodyPost_ret (v:=wev (ek,et,er,ec)) ?_ rfl ⟨rfl,?_⟩
  ·simp[wev,results,Tryz.results11,go_sem,g0,g1,g2,g3]
  ·exact WoA.fin HG.out hL HK4.out HM4.out (q:=w.heap.size+1) (Nat.le_succ _) (((((Mod.refl [w.heap.size+1] _).setCell (by simp) _).setCell (by simp) _).setCell (by simp) _).setCell (by simp) _)
 by_cases h4:wn=4
 ·subst h4
  have hw2:=hw.out;rw[if_neg (by decide),if_neg (by decide),if_neg (by decide),if_neg (by decide),if_pos rfl]at hw2;have HC:=fun W (K:WoA gw ga gt gl D At S L k W x)=>hw2▸leaves_wo HG.out K t true hk hr4 hr5;unfold WAft at HC;clear hw hw2 hm1 hm3;go_enter Tryz.func11,Tryz.ntmps11;go_wp2_with fail;go_quiet((go_at_call 24;exact Calls.quiet_of_same (HT.out _)));have HK2:=Lib.hid (HK.out.drewN HG.out nq);have HM2:=Lib.hid (HM.out.drewN nq);have HE2:=Lib.hid (show(((w.alloc (.cells #[.int .i64 t,.int .i64 4] 47)).alloc (.cells #[.int .i64 0,.int .i64 0,.bool false,.int .i64 0] 44)).drewN nq).heap[w.heap.size+1]? =some (.cells #[.int .i64 0,.int .i64 0,.bool false,.int .i64 0] 44) from HE.out);have HP2:=Lib.hid (show(((w.alloc (.cells #[.int .i64 t,.int .i64 4] 47)).alloc (.cells #[.int .i64 0,.int .i64 0,.bool false,.int .i64 0] 44)).drewN nq).heap[w.heap.size]? =some (.cells #[.int .i64 t,.int .i64 4] 47) from HP.out);have HZ2:=Lib.hid (show w.heap.size≤(((w.alloc (.cells #[.int .i64 t,.int .i64 4] 47)).alloc (.cells #[.int .i64 0,.int .i64 0,.bool false,.int .i64 0] 44)).drewN nq).heap.size from HM2.out.size);clear HK HM HE HP HT;generalize((w.alloc (.cells #[.int .i64 t,.int .i64 4] 47)).alloc (.cells #[.int .i64 0,.int .i64 0,.bool false,.int .i64 0] 44)).drewN nq=W2 at*;have c0:=blk_cell HP2.out 0 (by simp);have c1:=blk_cell HP2.out 1 (by simp);simp only[List.getElem_toArray,List.getElem_cons_zero,List.getElem_cons_succ]at c0 c1;go_wp2_with fail;refine(HC _ HK2.out).mono ?_;rintro e w4 ⟨rfl,hk4,hm4⟩;have hlt:∀q∈S,q<L:=HG.out.lt;have HE4:=Lib.hid (hm4.blk HE2.out (fun h=>by have:=hlt _ h;omega));have HK4:=Lib.hid hk4;have HM4:=Lib.hid (HM2.out.trans hm4);clear hk4 hm4 HK2 HE2 HP2 HM2 c0 c1 hlt HC;simp only[wev];have d0:=blk_cell HE4.out 0 (by simp);have d1:=blk_cell HE4.out 1 (by simp);have d2:=blk_cell HE4.out 2 (by simp);have d3:=blk_cell HE4.out 3 (by simp);simp only[List.getElem_toArray,List.getElem_cons_zero,List.getElem_cons_succ]at d0 d1 d2 d3;have f0:=blk_free HE4.out 0;have f1:=blk_free HE4.out 1;have f2:=blk_free HE4.out 2;have f3:=blk_free HE4.out 3;have k0:=blk_set HE4.out 0 (.int .i64 (ek));have k1:=blk_set k0 1 (.int .i64 (et));have k2:=blk_set k1 2 (.bool er);have k3:=blk_set k2 3 (.int .i64 (ec));have g0:=blk_cell k0 0 (by simp);have g1:=blk_cell k1 1 (by simp);have g2:=blk_cell k2 2 (by simp);have g3:=blk_cell k3 3 (by simp);simp at g0 g1 g2 g3;clear k0 k1 k2 k3;go_wp2_with fail;refine bodyPost_ret (v:=wev (ek,et,er,ec)) ?_ rfl ⟨rfl,?_⟩
  ·simp[wev,results,Tryz.results11,go_sem,g0,g1,g2,g3]
  ·exact WoA.fin HG.out hL HK4.out HM4.out (q:=w.heap.size+1) (Nat.le_succ _) (((((Mod.refl [w.heap.size+1] _).setCell (by simp) _).setCell (by simp) _).setCell (by simp) _).setCell (by simp) _)
 have hw2:=hw.out;rw[if_neg h0,if_neg h1,if_neg h3,if_neg h2,if_neg h4]at hw2;simp only[Prod.mk.injEq]at hw2;obtain⟨⟨rfl,rfl,rfl,rfl⟩,rfl⟩:=hw2;have e0:=ibeq_no h0;have e1:=ibeq_no h1;have e2:=ibeq_no h2;have e3:=ibeq_no h3;have e4:=ibeq_no h4;clear hw hm1 hm3 h0 h1 h2 h3 h4;go_enter Tryz.func11,Tryz.ntmps11;go_wp2_with fail;go_quiet((go_at_call 24;exact Calls.quiet_of_same (HT.out _)));have HK2:=Lib.hid (HK.out.drewN HG.out nq);have HM2:=Lib.hid (HM.out.drewN nq);have HE2:=Lib.hid (show(((w.alloc (.cells #[.int .i64 t,.int .i64 wn] 47)).alloc (.cells #[.int .i64 0,.int .i64 0,.bool false,.int .i64 0] 44)).drewN nq).heap[w.heap.size+1]? =some (.cells #[.int .i64 0,.int .i64 0,.bool false,.int .i64 0] 44) from HE.out);have HP2:=Lib.hid (show(((w.alloc (.cells #[.int .i64 t,.int .i64 wn] 47)).alloc (.cells #[.int .i64 0,.int .i64 0,.bool false,.int .i64 0] 44)).drewN nq).heap[w.heap.size]? =some (.cells #[.int .i64 t,.int .i64 wn] 47) from HP.out);have HZ2:=Lib.hid (show w.heap.size≤(((w.alloc (.cells #[.int .i64 t,.int .i64 wn] 47)).alloc (.cells #[.int .i64 0,.int .i64 0,.bool false,.int .i64 0] 44)).drewN nq).heap.size from HM2.out.size);clear HK HM HE HP HT;generalize((w.alloc (.cells #[.int .i64 t,.int .i64 wn] 47)).alloc (.cells #[.int .i64 0,.int .i64 0,.bool false,.int .i64 0] 44)).drewN nq=W2 at*;have c0:=blk_cell HP2.out 0 (by simp);have c1:=blk_cell HP2.out 1 (by simp);simp only[List.getElem_toArray,List.getElem_cons_zero,List.getElem_cons_succ]at c0 c1;go_wp2_with fail;refine(state_wo HG.out HK2.out t).mono ?_;rintro e w4 ⟨rfl,hb4⟩;have HE4:=Lib.hid ((Mod.of_below (S:=[]) hb4).blk HE2.out (by simp));have HP4:=(Mod.of_below (S:=[]) hb4).blk HP2.out (by simp);have HK4:=Lib.hid ((HK2.out.same HG.out hb4).up HG.out);have HM4:=Lib.hid (HM2.out.trans (Mod.of_below (S:=S) hb4));clear c0 c1;have c0:=blk_cell HP4 0 (by simp);have c1:=blk_cell HP4 1 (by simp);simp only[List.getElem_toArray,List.getElem_cons_zero,List.getElem_cons_succ]at c0 c1;clear hb4 HK2 HE2 HP2 HM2 HP4;have d0:=blk_cell HE4.out 0 (by simp);have d1:=blk_cell HE4.out 1 (by simp);have d2:=blk_cell HE4.out 2 (by simp);have d3:=blk_cell HE4.out 3 (by simp);simp only[List.getElem_toArray,List.getElem_cons_zero,List.getElem_cons_succ]at d0 d1 d2 d3;have f0:=blk_free HE4.out 0;have f1:=blk_free HE4.out 1;have f2:=blk_free HE4.out 2;have f3:=blk_free HE4.out 3;have k0:=blk_set HE4.out 0 (.int .i64 (5));have k1:=blk_set k0 1 (.int .i64 (t));have k2:=blk_set k1 2 (.bool (D.rd x t));have k3:=blk_set k2 3 (.int .i64 (0));have g0:=blk_cell k0 0 (by simp);have g1:=blk_cell k1 1 (by simp);have g2:=blk_cell k2 2 (by simp);have g3:=blk_cell k3 3 (by simp);simp at g0 g1 g2 g3;clear k0 k1 k2 k3;go_wp2_with fail;refine bodyPost_ret (v:=wev (5,t,(D.rd x t),0)) ?_ rfl ⟨rfl,?_⟩
 ·simp[wev,results,Tryz.results11,go_sem,g0,g1,g2,g3]
 ·exact WoA.fin HG.out hL HK4.out HM4.out (q:=w.heap.size+1) (Nat.le_succ _) (((((Mod.refl [w.heap.size+1] _).setCell (by simp) _).setCell (by simp) _).setCell (by simp) _).setCell (by simp) _)
theorem do_wo (t wn:Int)(hk:k<1000)(hm1:wn=1→may false)(hm3:wn=3→D.sh=true→may true):
 Calls Tryz.prog 11 #[.pointer (some ⟨gw,0,none⟩),.agg #[.int .i64 t,.int .i64 wn]] w (WAft gw ga gt gl D At S L k w (wact D x t wn)):=by
 by_cases ht:t<0∨(D.N:Int)≤t
 ·have:=do_out hG K t wn ht
  rw[show wact D x t wn=((0,0,false,0),x) by unfold wact;rw[if_pos ht]];exact this
 ·exact do_in hG K t wn hk ht hm1 hm3 _ (by unfold wact;rw[if_neg ht])
end
end Go.Proofs.YtfmiioddhpkdkaaGreat.Wo
namespace Go.Proofs.YtfmiioddhpkdkaaGreat.Lk
open Go.RowKit Go.Proofs.YtfmiioddhpkdkaaGreat.Ara Go.Proofs.YtfmiioddhpkdkaaGreat.Lok Go.Proofs.YtfmiioddhpkdkaaGreat.Ga
set_option maxRecDepth 100000 in
theorem Spot_out (gl:Nat)(kind T:Int)(Ty:TypeId)(v:Value)(w:World)(H:LkB w gl kind T Ty v)(i:Int)(h:i<0∨T≤i):
 Calls Tryz.prog 61 #[.pointer (some ⟨gl,0,none⟩),.int .i64 i] w fun e w'=>e= .returned (vSp ⟨0,0,0,0⟩)∧Below w.heap.size w w':=by
 have hb:=below_new w (.cells #[.int .i64 0,.int .i64 0,.int .i64 0,.int .i64 0] 134);have HX:=Lib.hid (blk_new w (.cells #[.int .i64 0,.int .i64 0,.int .i64 0,.int .i64 0] 134));have HB:=Lib.hid hb;have HH:=Lib.hid (has_out gl kind T Ty v _ (LkB.same H hb) i h);clear H hb;unfold vSp;go_enter Tryz.func61,Tryz.ntmps61;go_wp2_with fail;refine HH.out.mono ?_;rintro e wx ⟨rfl,hwx⟩;obtain rfl:=hwx.symm;generalize w.alloc (.cells #[.int .i64 0,.int .i64 0,.int .i64 0,.int .i64 0] 134)=W2 at*;have d0:=blk_cell HX.out 0 (by simp);have d1:=blk_cell HX.out 1 (by simp);have d2:=blk_cell HX.out 2 (by simp);have d3:=blk_cell HX.out 3 (by simp);simp only[List.getElem_toArray,List.getElem_cons_zero,List.getElem_cons_succ]at d0 d1 d2 d3;have f0:=blk_free HX.out 0;have f1:=blk_free HX.out 1;have f2:=blk_free HX.out 2;have f3:=blk_free HX.out 3;have k0:=blk_set HX.out 0 (.int .i64 0);have k1:=blk_set k0 1 (.int .i64 0);have k2:=blk_set k1 2 (.int .i64 0);have k3:=blk_set k2 3 (.int .i64 0);have g0:=blk_cell k0 0 (by simp);have g1:=blk_cell k1 1 (by simp);have g2:=blk_cell k2 2 (by simp);have g3:=blk_cell k3 3 (by simp);simp at g0 g1 g2 g3;clear k0 k1 k2 k3;go_wp2_with fail;refine bodyPost_ret (v:= .agg #[.int .i64 0,.int .i64 0,.int .i64 0,.int .i64 0]) ?_ rfl ⟨rfl,?_⟩
 ·simp[results,Tryz.results61,go_sem,g0,g1,g2,g3]
 ·exact(((HB.out.setCell (Nat.le_refl _) _).setCell (Nat.le_refl _) _).setCell (Nat.le_refl _) _).setCell (Nat.le_refl _) _
end Go.Proofs.YtfmiioddhpkdkaaGreat.Lk
namespace Go.Proofs.YtfmiioddhpkdkaaGreat.Wo
open Go.RowKit Go.Proofs.YtfmiioddhpkdkaaGreat.Ara Go.Proofs.YtfmiioddhpkdkaaGreat.Lok Go.Proofs.YtfmiioddhpkdkaaGreat.Ga Go.Proofs.YtfmiioddhpkdkaaGreat.Wf Go.Proofs.YtfmiioddhpkdkaaGreat.Fl Go.Proofs.YtfmiioddhpkdkaaGreat.Lk
def aloV (gf:Nat):Value:= .agg #[.iface 167 (.pointer (some ⟨gf,0,none⟩))]
theorem mLeave (gf:Nat)(w:World):(method 456 155 (aloV gf) "Leave").run Tryz.prog w= .ok (178,.pointer (some ⟨gf,0,none⟩)) w:=by kernel_rfl
theorem mStep (gf:Nat)(w:World):(method 456 155 (aloV gf) "Step").run Tryz.prog w= .ok (175,.pointer (some ⟨gf,0,none⟩)) w:=by kernel_rfl
theorem mSpot (gf:Nat)(w:World):(method 456 155 (aloV gf) "Spot").run Tryz.prog w= .ok (290,.pointer (some ⟨gf,0,none⟩)) w:=by kernel_rfl
theorem mAsk (gf:Nat)(w:World):(method 456 155 (aloV gf) "Ask").run Tryz.prog w= .ok (236,aloV gf) w:=by kernel_rfl
theorem mCount (gf:Nat)(w:World):(method 456 155 (aloV gf) "Count").run Tryz.prog w= .ok (237,aloV gf) w:=by kernel_rfl
theorem mfAsk (gf:Nat)(w:World):(method 456 167 (.pointer (some ⟨gf,0,none⟩)) "Ask").run Tryz.prog w= .ok (171,.pointer (some ⟨gf,0,none⟩)) w:=by kernel_rfl
theorem mfSpot (gf:Nat)(w:World):(method 456 167 (.pointer (some ⟨gf,0,none⟩)) "Spot").run Tryz.prog w= .ok (290,.pointer (some ⟨gf,0,none⟩)) w:=by kernel_rfl
theorem cLeave (a:Array Value)(w:World):(callFunc 178 a).run Tryz.prog w= .ok (.enter 178 a) w:=by kernel_rfl
theorem cStep (a:Array Value)(w:World):(callFunc 175 a).run Tryz.prog w= .ok (.enter 175 a) w:=by kernel_rfl
theorem cSpot (a:Array Value)(w:World):(callFunc 290 a).run Tryz.prog w= .ok (.enter 290 a) w:=by kernel_rfl
theorem cfAsk (a:Array Value)(w:World):(callFunc 171 a).run Tryz.prog w= .ok (.enter 171 a) w:=by kernel_rfl
theorem cAsk (a:Array Value)(w:World):(callFunc 236 a).run Tryz.prog w= .ok (.enter 236 a) w:=by kernel_rfl
theorem cCount (a:Array Value)(w:World):(callFunc 237 a).run Tryz.prog w= .ok (.enter 237 a) w:=by kernel_rfl
end Go.Proofs.YtfmiioddhpkdkaaGreat.Wo
namespace Go.Proofs.YtfmiioddhpkdkaaGreat.Wo
open Go.RowKit Go.Proofs.YtfmiioddhpkdkaaGreat.Ara Go.Proofs.YtfmiioddhpkdkaaGreat.Lok Go.Proofs.YtfmiioddhpkdkaaGreat.Ga Go.Proofs.YtfmiioddhpkdkaaGreat.Wf Go.Proofs.YtfmiioddhpkdkaaGreat.Fl Go.Proofs.YtfmiioddhpkdkaaGreat.Lk
section
variable {gf gl ga ha hs:Nat}{p:PK}{σ:Ar}{sp:List Sp}{w:World}(K:FLAt w gf gl ga ha hs p σ sp)
include K
set_option maxRecDepth 100000 in
theorem alone_ask (n m:Nat)(ho:OkK p σ sp n m)(hm:m≤100000)(i:Int):Calls Tryz.prog 236 #[aloV gf,.int .i64 i,.bool false] w fun e w'=>e= .returned (.bool (doK p σ sp 1 i).1)∧FLAt w' gf gl ga ha hs p (doK p σ sp 1 i).2.1 (doK p σ sp 1 i).2.2∧Mod [ga,ha,hs] w w':=by
 have hb:=below_new w (.cells #[.iface 167 (.pointer (some ⟨gf,0,none⟩))] 155);have HA:=Lib.hid (Ask_flat (K.same hb) n m ho hm i);have HB:=Lib.hid (Mod.of_below (S:=[ga,ha,hs]) hb);have h1:=fun W=>mfAsk gf W;have h2:=fun a W=>cfAsk a W;clear K ho hb;unfold aloV;generalize doK p σ sp 1 i=r at*;obtain⟨b,σ2,sp2⟩:=r;simp only at HA;go_enter Tryz.func236,Tryz.ntmps236;go_wp2_with fail;refine HA.out.mono ?_;rintro e w2 ⟨rfl,hk,hm2⟩;have HK2:=Lib.hid hk;have HM2:=Lib.hid (HB.out.trans hm2);clear hk hm2;go_wp2_with fail;go_ret;exact⟨rfl,HK2.out,HM2.out⟩
set_option maxRecDepth 100000 in
theorem one_flat (i:Int):Calls Tryz.prog 238 #[.iface 167 (.pointer (some ⟨gf,0,none⟩)),.int .i64 i] w fun e w'=>e= .returned (.int .i64 (if(spOf sp i).pc=10 then 1 else 0))∧Below w.heap.size w w':=by
 have HS:=Lib.hid (Spot_flat K i);have hf:=fun a b c d W=>sfld a b c d W;have h1:=fun W=>mfSpot gf W;have h2:=fun a W=>cSpot a W;clear K;generalize spOf sp i=s at*;obtain⟨xp,xa,xb,xc⟩:=s;simp only at HS⊢;by_cases h:xp=10
 ·subst h
  rw[if_pos rfl];go_enter Tryz.func238,Tryz.ntmps238;go_wp2_with fail;refine HS.out.mono ?_;rintro e w2 ⟨rfl,hb⟩;have hb:=Lib.hid hb;go_wp2_with fail;go_ret;exact⟨rfl,hb.out⟩
 ·rw[if_neg h]
  have e0:=ibeq_no h;go_enter Tryz.func238,Tryz.ntmps238;go_wp2_with fail;refine HS.out.mono ?_;rintro e w2 ⟨rfl,hb⟩;have hb:=Lib.hid hb;go_wp2_with fail;go_ret;exact⟨rfl,hb.out⟩
set_option maxRecDepth 100000 in
theorem alone_count (i:Int):Calls Tryz.prog 237 #[aloV gf,.int .i64 i] w fun e w'=>e= .returned (.int .i64 (if(spOf sp i).pc=10 then 1 else 0))∧Below w.heap.size w w':=by
 have hb:=below_new w (.cells #[.iface 167 (.pointer (some ⟨gf,0,none⟩))] 155);have HA:=Lib.hid (one_flat (K.same hb) i);have HB:=Lib.hid hb;clear K hb;unfold aloV;generalize(if(spOf sp i).pc=10 then(1:Int)else 0)=c at*;go_enter Tryz.func237,Tryz.ntmps237;go_wp2_with fail;refine HA.out.mono ?_;rintro e w2 ⟨rfl,h2⟩;have h2:=Lib.hid (HB.out.trans (h2.mono HB.out.size));go_wp2_with fail;go_ret;exact⟨rfl,h2.out⟩
end
end Go.Proofs.YtfmiioddhpkdkaaGreat.Wo
namespace Go.Proofs.YtfmiioddhpkdkaaGreat.Wo
open Go.RowKit Go.Proofs.YtfmiioddhpkdkaaGreat.Ara Go.Proofs.YtfmiioddhpkdkaaGreat.Lok Go.Proofs.YtfmiioddhpkdkaaGreat.Ga Go.Proofs.YtfmiioddhpkdkaaGreat.Wf Go.Proofs.YtfmiioddhpkdkaaGreat.Fl Go.Proofs.YtfmiioddhpkdkaaGreat.Lk
def ldF (p:PK)(n:Nat):LD (Ar×List Sp)where
 N:=n
 sh:=false
 st x t:=gst (spOf x.2 t)
 rd _ _:=false
 ask x t _:=doK p x.1 x.2 1 t
 leave x t:=doK p x.1 x.2 2 t
 step x t:=doK p x.1 x.2 0 t
 cn x t:=if(spOf x.2 t).pc=10 then 1 else 0
structure Fp where
 g:Nat
 gf:Nat
 gl:Nat
 ga:Nat
 ha:Nat
 hs:Nat
 kind:Int
structure FA (c:Fp)(p:PK)(n m0 L:Nat)(k:Nat)(W:World)(x:Ar×List Sp):Prop where
 lk:LkB W c.g c.kind (n:Int) 155 (aloV c.gf)
 fl:FLAt W c.gf c.gl c.ga c.ha c.hs p x.1 x.2
 ok:OkK p x.1 x.2 n (m0+k)
 k5:c.kind≤5
 ns:c.g≠c.ga∧c.g≠c.ha∧c.g≠c.hs
 lo:c.g<L∧c.gf<L∧c.gl<L∧c.ga<L∧c.ha<L∧c.hs<L
theorem fl_base {B gf gl ga ha hs:Nat}{p:PK}{σ:Ar}{sp:List Sp}{W W':World}(k:FLAt W gf gl ga ha hs p σ sp)(hb:Below B W W')(h0:gf<B)(h1:gl<B)(h2:ga<B)(h3:ha<B)(h4:hs<B):FLAt W' gf gl ga ha hs p σ sp:=by
 have key:∀ {X:Nat},X<B→W'.heap[X]? =W.heap[X]? :=fun h=>hb.block _ h;refine⟨(key h0).trans k.fb,?_,k.n1,k.n2,k.n3⟩;have a:=k.at_;cases p with
 |tas P=>obtain⟨k1,k2,k3,⟨c,k4⟩,k5⟩:=a;exact⟨k1.upd (S:=[]) (Upd.of_below hb) h2 h3 (by simp) (by simp),k2.of_blk (key h4),k3,⟨c,(key h1).trans k4⟩,k5⟩
 |tic P=>obtain⟨k1,k2,k3,⟨c,k4⟩,k5⟩:=a;exact⟨k1.upd (S:=[]) (Upd.of_below hb) h2 h3 (by simp) (by simp),k2.of_blk (key h4),k3,⟨c,(key h1).trans k4⟩,k5⟩
 |par P=>obtain⟨k1,k2,k3,⟨c,k4⟩,k5⟩:=a;exact⟨k1.upd (S:=[]) (Upd.of_below hb) h2 h3 (by simp) (by simp),k2.of_blk (key h4),k3,⟨c,(key h1).trans k4⟩,k5⟩
 |mcs P=>obtain⟨k1,k2,k3,⟨c,k4⟩,k5⟩:=a;exact⟨k1.upd (S:=[]) (Upd.of_below hb) h2 h3 (by simp) (by simp),k2.of_blk (key h4),k3,⟨c,(key h1).trans k4⟩,k5⟩
 |clh P=>obtain⟨k1,k2,k3,⟨c,k4⟩,k5⟩:=a;exact⟨k1.upd (S:=[]) (Upd.of_below hb) h2 h3 (by simp) (by simp),k2.of_blk (key h4),k3,⟨c,(key h1).trans k4⟩,k5⟩
theorem rd_flat {kind:Int}(h:kind≤5)(s:Sp):rdS kind s=false:=by
 unfold rdS shK;rw[show decide (11≤kind)=false from decide_eq_false (by omega)];simp
section
variable {c:Fp}{p:PK}{n m0 L k:Nat}{W W':World}{x:Ar×List Sp}
theorem FA.keep (K:FA c p n m0 L k W x)(hb:Below L W W'):FA c p n m0 L k W' x:=by
 obtain⟨l1,l2,l3,l4,l5,l6⟩:=K.lo;exact⟨(hb.block _ l1).trans K.lk,fl_base K.fl hb l2 l3 l4 l5 l6,K.ok,K.k5,K.ns,K.lo⟩
theorem FA.spot (K:FA c p n m0 L k W x)(hL:L≤W.heap.size)(t:Int):Calls Tryz.prog 61 #[.pointer (some ⟨c.g,0,none⟩),.int .i64 t] W fun e w'=>e= .returned (vSp (spOf x.2 t))∧Below W.heap.size W w':=by
 have hn:x.2.length=n:=K.ok.len;by_cases ht:t<0∨(n:Int)≤t
 ·rw[spOf_out (by rw[hn];exact ht)]
  exact Spot_out c.g c.kind n _ _ W K.lk t ht
 ·refine Spot_gen c.g c.kind n _ _ W K.lk _ _ cSpot (mSpot c.gf) t (by omega) (by omega) (spOf x.2 t) fun V hb=> ?_
  exact Spot_flat (K.fl.same hb) t
theorem FA.acts (K:FA c p n m0 L k W x){x':Ar×List Sp}(hk:FLAt W' c.gf c.gl c.ga c.ha c.hs p x'.1 x'.2)(ho:OkK p x'.1 x'.2 n (m0+k+1))(hm:Mod [c.ga,c.ha,c.hs] W W'):FA c p n m0 L (k+1) W' x':=by
 obtain⟨n1,n2,n3⟩:=K.ns;exact⟨K.lk.mod hm (by simp;omega),hk,ho,K.k5,K.ns,K.lo⟩
theorem OkK.up {σ:Ar}{sp:List Sp}{m:Nat}(h:OkK p σ sp n m):OkK p σ sp n (m+1):=by
 have:=h.act 7 0;rwa [do_else p σ sp 7 0 (.inr (by omega))]at this
theorem li_flat (hm0:m0≤50000)(hl:c.ga<L∧c.ha<L∧c.hs<L):LI c.g (ldF p n) (fun k W x=>FA c p n m0 L k W x∧L≤W.heap.size) (fun b=>b=false) [c.ga,c.ha,c.hs] L:=by
 refine⟨by simp;omega,fun k W x K=> ?_,fun k W W' x K hb=>⟨K.1.keep hb,Nat.le_trans K.2 hb.size⟩,fun k W x K=>threads_lk _ _ _ _ _ W K.1.lk,fun k W x t K=> ?_,fun k W x t K=> ?_,fun k W x t b hk hb K h0 h1=> ?_,fun k W x t hk K h0 h1=> ?_,fun k W x t hk K h0 h1 _=> ?_,fun k W x t K h0 h1=> ?_⟩
 ·exact⟨⟨K.1.lk,K.1.fl,OkK.up K.1.ok,K.1.k5,K.1.ns,K.1.lo⟩,K.2⟩
 ·exact State_gen c.g W t _ fun V hb=>(K.1.keep (hb.mono K.2)).spot (Nat.le_trans K.2 hb.size) t
 ·have:=Reads_gen c.g c.kind n _ _ W K.1.lk t _ fun V hb=>(K.1.keep (hb.mono K.2)).spot (Nat.le_trans K.2 hb.size) t
  rw[rd_flat K.1.k5]at this;exact this
 ·subst hb
  exact(Ask_gen c.g c.kind n _ _ W K.1.lk _ _ cAsk (mAsk c.gf) t false h0 h1 _ (fun w'=>FLAt w' c.gf c.gl c.ga c.ha c.hs p _ _∧Mod [c.ga,c.ha,c.hs] W w') (alone_ask K.1.fl n (m0+k) K.1.ok (by omega) t)).mono fun e w' ⟨e1,e2,e3⟩=>⟨e1,⟨K.1.acts e2 (K.1.ok.act 1 t) e3,Nat.le_trans K.2 e3.size⟩,e3⟩
 ·exact(Leave_gen c.g c.kind n _ _ W K.1.lk _ _ cLeave (mLeave c.gf) t h0 h1 _ (fun w'=>FLAt w' c.gf c.gl c.ga c.ha c.hs p _ _∧Mod [c.ga,c.ha,c.hs] W w') (Leave_flat K.1.fl n (m0+k) K.1.ok (by omega) t)).mono fun e w' ⟨e1,e2,e3⟩=>⟨e1,⟨K.1.acts e2 (K.1.ok.act 2 t) e3,Nat.le_trans K.2 e3.size⟩,e3⟩
 ·exact(Step_gen c.g c.kind n _ _ W K.1.lk _ _ cStep (mStep c.gf) t h0 h1 _ (fun w'=>FLAt w' c.gf c.gl c.ga c.ha c.hs p _ _∧Mod [c.ga,c.ha,c.hs] W w') (Step_flat K.1.fl n (m0+k) K.1.ok (by omega) t)).mono fun e w' ⟨e1,e2,e3⟩=>⟨e1,⟨K.1.acts e2 (K.1.ok.act 0 t) e3,Nat.le_trans K.2 e3.size⟩,e3⟩
 ·exact Count_gen c.g c.kind n _ _ W K.1.lk _ _ cCount (mCount c.gf) t h0 h1 _ (fun w'=>Below W.heap.size W w') (alone_count K.1.fl t)
end
end Go.Proofs.YtfmiioddhpkdkaaGreat.Wo
namespace Go.Proofs.YtfmiioddhpkdkaaGreat.Wo
open Go.RowKit Go.Proofs.YtfmiioddhpkdkaaGreat.Ara Go.Proofs.YtfmiioddhpkdkaaGreat.Lok Go.Proofs.YtfmiioddhpkdkaaGreat.Ga Go.Proofs.YtfmiioddhpkdkaaGreat.Fl Go.Proofs.YtfmiioddhpkdkaaGreat.Lk Go.Proofs.YtfmiioddhpkdkaaGreat.Co Go.Proofs.YtfmiioddhpkdkaaGreat.Cm
def couV (gf:Nat):Value:= .agg #[.iface 143 (.pointer (some ⟨gf,0,none⟩))]
theorem cmLeave (gf:Nat)(w:World):(method 456 147 (couV gf) "Leave").run Tryz.prog w= .ok (165,.pointer (some ⟨gf,0,none⟩)) w:=by kernel_rfl
theorem cmStep (gf:Nat)(w:World):(method 456 147 (couV gf) "Step").run Tryz.prog w= .ok (167,.pointer (some ⟨gf,0,none⟩)) w:=by kernel_rfl
theorem cmSpot (gf:Nat)(w:World):(method 456 147 (couV gf) "Spot").run Tryz.prog w= .ok (166,.pointer (some ⟨gf,0,none⟩)) w:=by kernel_rfl
theorem cmCount (gf:Nat)(w:World):(method 456 147 (couV gf) "Count").run Tryz.prog w= .ok (164,.pointer (some ⟨gf,0,none⟩)) w:=by kernel_rfl
theorem cmAsk (gf:Nat)(w:World):(method 456 147 (couV gf) "Ask").run Tryz.prog w= .ok (179,couV gf) w:=by kernel_rfl
theorem cmfAsk (gf:Nat)(w:World):(method 456 143 (.pointer (some ⟨gf,0,none⟩)) "Ask").run Tryz.prog w= .ok (163,.pointer (some ⟨gf,0,none⟩)) w:=by kernel_rfl
theorem ccLeave (a:Array Value)(w:World):(callFunc 165 a).run Tryz.prog w= .ok (.enter 165 a) w:=by kernel_rfl
theorem ccStep (a:Array Value)(w:World):(callFunc 167 a).run Tryz.prog w= .ok (.enter 167 a) w:=by kernel_rfl
theorem ccSpot (a:Array Value)(w:World):(callFunc 166 a).run Tryz.prog w= .ok (.enter 166 a) w:=by kernel_rfl
theorem ccCount (a:Array Value)(w:World):(callFunc 164 a).run Tryz.prog w= .ok (.enter 164 a) w:=by kernel_rfl
theorem ccfAsk (a:Array Value)(w:World):(callFunc 163 a).run Tryz.prog w= .ok (.enter 163 a) w:=by kernel_rfl
theorem ccAsk (a:Array Value)(w:World):(callFunc 179 a).run Tryz.prog w= .ok (.enter 179 a) w:=by kernel_rfl
def ldC (P:Pm):LD CS where
 N:=P.T
 sh:=false
 st x t:=gst (spOf x.S t)
 rd _ _:=false
 ask x t _:=(turnB x.S t 0,askC P x t)
 leave x t:=(turnB x.S t 10,leaveC x t)
 step x t:=(stepB P x t,stepC P x t)
 cn x t:=cntV (spOf x.S t)
structure CLo (c:Cd)(NN L:Nat):Prop where
 a:(c.gl<L∧c.gt<L∧c.gn<L∧c.gs<L)∧(c.hn<L∧c.hs<L∧c.ga<L∧c.ha<L)∧c.gf<L∧c.gk<L∧c.gh<L
 l:∀n,n<NN→c.lf n<L∧c.lk n<L∧c.lh n<L
section
variable {W W':World}{c:Cd}{P:Pm}{x:CS}(K:CoAt W c P x)
include K
theorem CoAt.clo:CLo c P.NN W.heap.size:=by
 obtain⟨s1,s2,s3,s4,s5⟩:=K.s.sz;obtain⟨b1,b2,b3,b4⟩:=K.d.fg.blocks;refine⟨⟨⟨lt_of_blk K.s.lk_,s1,s2,s3⟩,⟨s4,K.d.sp.lt,b3,s5⟩,b1,b2,b4⟩,fun n hn=> ?_⟩;obtain⟨d1,d2,_,d4⟩:=(K.d.fl n hn).blocks;exact⟨d1,d2,d4⟩
theorem CoAt.base {L:Nat}(hl:CLo c P.NN L)(hb:Below L W W'):CoAt W' c P x:=by
 obtain⟨⟨a1,a2,a3,a4⟩,⟨a5,a6,a7,a8⟩,a9,a10,a11⟩:=hl.a
 have cm:∀(g i:Nat),g<L→W'.cell? ⟨g,i,none⟩=W.cell? ⟨g,i,none⟩:=fun g i h1=>by
  unfold World.cell?;rw[hb.block g h1]
 have hs:=hb.size;have hsz:=K.s.sz
 exact⟨⟨(hb.block _ a1).trans K.s.lk_,(cm _ _ a2).trans K.s.t1,(cm _ _ a2).trans K.s.t2,(cm _ _ a2).trans K.s.t6,(cm _ _ a2).trans K.s.t7,fun k hk=>(cm _ _ a3).trans (K.s.rn k hk),fun k hk=>(cm _ _ a4).trans (K.s.rs k hk),fun n hn=>⟨(cm _ _ a5).trans (K.s.nr n hn).1,(cm _ _ a5).trans (K.s.nr n hn).2⟩,K.s.c0,K.s.cl,K.s.ch,by omega,fun b h=>K.s.fresh b (by omega)⟩,
  ⟨K.d.ar.upd (S:=[]) (Upd.of_below hb) a7 a8 (by simp) (by simp),K.d.sp.of_blk (hb.block _ a6),fl_base K.d.fg hb a9 a10 a7 a8 a11,fun n hn=>fl_base (K.d.fl n hn) hb (hl.l n hn).1 (hl.l n hn).2.1 a7 a8 (hl.l n hn).2.2⟩,K.len⟩
set_option maxRecDepth 100000 in
theorem counted_ask (D:Dj P){m:Nat}(H:CI P x m)(hm:m≤100000)(i:Int):Calls Tryz.prog 179 #[couV c.gl,.int .i64 i,.bool false] W fun e w'=>e= .returned (.bool (turnB x.S i 0))∧CoAt w' c P (askC P x i)∧Kp c.col W w':=by
 have hb:=below_new W (.cells #[.iface 143 (.pointer (some ⟨c.gl,0,none⟩))] 147);have HA:=Lib.hid (ask_co (K.same hb) D H hm i);have HB:=Lib.hid (Kp.of_below (col:=c.col) hb);have h1:=fun W=>cmfAsk c.gl W;have h2:=fun a W=>ccfAsk a W;clear K D H hb;unfold couV;unfold Aft at HA;generalize turnB x.S i 0=b at*;generalize askC P x i=x2 at*;go_enter Tryz.func179,Tryz.ntmps179;go_wp2_with fail;refine HA.out.mono ?_;rintro e w2 ⟨rfl,hk,hm2⟩;have HK2:=Lib.hid hk;have HM2:=Lib.hid (HB.out.trans hm2);clear hk hm2;go_wp2_with fail;go_ret;exact⟨rfl,HK2.out,HM2.out⟩
end
def colS (col:Nat→Nat)(L:Nat):List Nat:=(List.range L).filter fun q=>decide (col q≠0)
theorem mem_colS {col:Nat→Nat}{L q:Nat}:q∈colS col L↔q<L∧col q≠0:=by
 unfold colS;rw[List.mem_filter,List.mem_range,decide_eq_true_iff]
theorem Kp.mod {col:Nat→Nat}{L:Nat}{a w:World}(h:Kp col a w)(hf:∀q,L≤q→col q=0):Mod (colS col L) a w:=
 ⟨h.os,h.tape,h.output,h.size,fun k hk hn=>h.block k hk (by
  rcases Nat.lt_or_ge k L with h1|h1
  ·exact Classical.byContradiction fun h2=>hn (mem_colS.2 ⟨h1,h2⟩)
  ·exact hf k h1)⟩
structure CA (g:Nat)(kind:Int)(c:Cd)(P:Pm)(m0 L:Nat)(k:Nat)(W:World)(x:CS):Prop where
 lk:LkB W g kind (P.T:Int) 147 (couV c.gl)
 co:CoAt W c P x
 ci:CI P x (m0+k)
 k6:kind=6
 ng:c.col g=0
 lo:g<L∧CLo c P.NN L
 fr:∀q,L≤q→c.col q=0
 sz:L≤W.heap.size
theorem rd_low {kind:Int}(h:kind<11)(s:Sp):rdS kind s=false:=by
 unfold rdS shK;rw[show decide (11≤kind)=false from decide_eq_false (by omega)];simp
section
variable {g:Nat}{kind:Int}{c:Cd}{P:Pm}{m0 L k:Nat}{W W':World}{x:CS}
theorem CA.keep (K:CA g kind c P m0 L k W x)(hb:Below L W W'):CA g kind c P m0 L k W' x:=
 ⟨(hb.block _ K.lo.1).trans K.lk,CoAt.base K.co K.lo.2 hb,K.ci,K.k6,K.ng,K.lo,K.fr,Nat.le_trans K.sz hb.size⟩
theorem CA.spot (K:CA g kind c P m0 L k W x)(t:Int):Calls Tryz.prog 61 #[.pointer (some ⟨g,0,none⟩),.int .i64 t] W fun e w'=>e= .returned (vSp (spOf x.S t))∧Below W.heap.size W w':=by
 have hn:x.S.length=P.T:=K.co.len;by_cases ht:t<0∨(P.T:Int)≤t
 ·rw[spOf_out (by rw[hn];exact ht)]
  exact Spot_out g kind P.T _ _ W K.lk t ht
 ·refine Spot_gen g kind P.T _ _ W K.lk _ _ ccSpot (cmSpot c.gl) t (by omega) (by omega) (spOf x.S t) fun V hb=> ?_
  exact spot_co (K.co.same hb) t
theorem CA.acts (K:CA g kind c P m0 L k W x){x':CS}(hk:CoAt W' c P x')(ho:CI P x' (m0+k+1))(hm:Kp c.col W W'):CA g kind c P m0 L (k+1) W' x':=
 ⟨hm.blk K.lk K.ng,hk,ho,K.k6,K.ng,K.lo,K.fr,Nat.le_trans K.sz hm.size⟩
theorem li_co (D:Dj P)(hB:Bud.right P.B=true)(hm0:m0≤50000):LI g (ldC P) (fun k W x=>CA g kind c P m0 L k W x) (fun b=>b=false) (colS c.col L) L:=by
 refine⟨fun q hq=>(mem_colS.1 hq).1,fun k W x K=> ?_,fun k W W' x K hb=>K.keep hb,fun k W x K=>threads_lk _ _ _ _ _ W K.lk,fun k W x t K=> ?_,fun k W x t K=> ?_,fun k W x t b hk hb K h0 h1=> ?_,fun k W x t hk K h0 h1=> ?_,fun k W x t hk K h0 h1 _=> ?_,fun k W x t K h0 h1=> ?_⟩
 ·exact⟨K.lk,K.co,CI.up D K.ci (Nat.le_succ _),K.k6,K.ng,K.lo,K.fr,K.sz⟩
 ·exact State_gen g W t _ fun V hb=>(K.keep (hb.mono K.sz)).spot t
 ·have:=Reads_gen g kind P.T _ _ W K.lk t _ fun V hb=>(K.keep (hb.mono K.sz)).spot t
  rw[rd_low (by have:=K.k6;omega)]at this;exact this
 ·subst hb
  exact(Ask_gen g kind P.T _ _ W K.lk _ _ ccAsk (cmAsk c.gl) t false h0 h1 _ (fun w'=>CoAt w' c P _∧Kp c.col W w') (counted_ask K.co D K.ci (by omega) t)).mono fun e w' ⟨e1,e2,e3⟩=>⟨e1,K.acts e2 (CI.ask D K.ci t) e3,Kp.mod e3 K.fr⟩
 ·exact(Leave_gen g kind P.T _ _ W K.lk _ _ ccLeave (cmLeave c.gl) t h0 h1 _ (fun w'=>CoAt w' c P _∧Kp c.col W w') (leave_co K.co t)).mono fun e w' ⟨e1,e2,e3⟩=>⟨e1,K.acts e2 (CI.leave D K.ci t) e3,Kp.mod e3 K.fr⟩
 ·exact(Step_gen g kind P.T _ _ W K.lk _ _ ccStep (cmStep c.gl) t h0 h1 _ (fun w'=>CoAt w' c P _∧Kp c.col W w') (step_co K.co D K.ci (by omega) hB t)).mono fun e w' ⟨e1,e2,e3⟩=>⟨e1,K.acts e2 (CI.step D K.ci t) e3,Kp.mod e3 K.fr⟩
 ·exact Count_gen g kind P.T _ _ W K.lk _ _ ccCount (cmCount c.gl) t h0 h1 _ (fun w'=>Below W.heap.size W w') (count_co K.co t)
end
end Go.Proofs.YtfmiioddhpkdkaaGreat.Wo
