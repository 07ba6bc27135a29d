/- Merged texts: Tp5, Tp8, Tp7, PaP, Pa1. -/
import Derived.Test.YtfmiioddhpkdkaaGreatWh2
import Derived.Maps.AppendAt
set_option linter.unusedVariables false
set_option linter.unusedSimpArgs false
namespace Go.Proofs.YtfmiioddhpkdkaaGreat.Tp
open Go.RowKit Go.Proofs.YtfmiioddhpkdkaaGreat.Li Go.Proofs.YtfmiioddhpkdkaaGreat.De Go.Proofs.YtfmiioddhpkdkaaGreat.Ara
theorem frame68 {a:Act}(h:a.tmps.size=68)(hd:a.defers=[]):∃u:Nat→Value,a={tmps:= #[u 0,u 1,u 2,u 3,u 4,u 5,u 6,u 7,u 8,u 9,u 10,u 11,u 12,u 13,u 14,u 15,u 16,u 17,u 18,u 19,u 20,u 21,u 22,u 23,u 24,u 25,u 26,u 27,u 28,u 29,u 30,u 31,u 32,u 33,u 34,u 35,u 36,u 37,u 38,u 39,u 40,u 41,u 42,u 43,u 44,u 45,u 46,u 47,u 48,u 49,u 50,u 51,u 52,u 53,u 54,u 55,u 56,u 57,u 58,u 59,u 60,u 61,u 62,u 63,u 64,u 65,u 66,u 67],defers:=[]}∧∀n,a.tmps.getD n undef=u n:=by
 refine⟨fun n=>a.tmps.getD n undef,?_,fun _=>rfl⟩;have h1:=arr_lit a.tmps h;cases a with
 |mk t d=>
  simp only at hd h1;subst hd;congr 1
def ChR (p:List Int)(x y:Value)(w:World)(a:Act)(W:World):Prop:=
 a.tmps.size=68∧a.defers=[]∧a.tmps.getD 1 undef= .pointer (some ⟨w.heap.size,0,none⟩)∧∃g eb ec gd:Nat,a.tmps.getD 5 undef= .pointer (some ⟨g,0,none⟩)∧a.tmps.getD 6 undef= .slice (some ⟨gd,0,none⟩) p.length p.length∧
  W.cell? ⟨g,0,none⟩=some (.slice (some ⟨eb,0,none⟩) (lvs p).length ec)∧(∀j,j<(lvs p).length→W.cell? ⟨eb,j,none⟩=some (.int .i64 ((lvs p).getD j 0)))∧
  (∀v,v<p.length→W.cell? ⟨gd,v,none⟩=some (.int .i64 (dep p (v:Int):Int)))∧Bx w W x y
theorem cell_set_ne {w:World}{g b i:Nat}(h:b≠g)(u:Value):(w.setCell ⟨g,0,none⟩ u).cell? ⟨b,i,none⟩=w.cell? ⟨b,i,none⟩:=by
 simp only[World.cell?,Below.heap_setCell w ⟨g,0,none⟩ u b h]
theorem Bx.set {w W:World}{x y:Value}(h:Bx w W x y){g:Nat}(hg:w.heap.size<g)(u:Value):Bx w (W.setCell ⟨g,0,none⟩ u) x y:=by
 obtain⟨h1,h2,h3,h4⟩:=h;exact⟨h1.setCell (p:=⟨g,0,none⟩) (Nat.le_of_lt hg) u,by simpa using h2,(cell_set_ne (Nat.ne_of_lt hg) u).trans h3,(cell_set_ne (Nat.ne_of_lt hg) u).trans h4⟩
theorem nin_no {p t:List Int}(h:anyF (nin (lvs p)) t=false):∀x∈t,leafP p x:=by
 intro x hx;unfold anyF at h;rw[List.any_eq_false]at h;have:=h x hx;unfold nin at this;rw[←mem_lvs];simpa using this
theorem nin_yes {p t:List Int}(h:anyF (nin (lvs p)) t=true):¬∀x∈t,leafP p x:=by
 intro hh;unfold anyF at h;rw[List.any_eq_true]at h;obtain⟨x,hx,h⟩:=h;have:=mem_lvs.2 (hh x hx);unfold nin at h;simp[this]at h
theorem lvs_len (p:List Int):(lvs p).length≤p.length:=lvK_len p _
theorem lvs_at {p:List Int}{j:Nat}(h:j<(lvs p).length):∃v:Nat,(lvs p).getD j 0=(v:Int)∧v<p.length∧leafP p (v:Int):=by
 have:=mem_lvs.1 (getD_mem h);obtain⟨h1,h2,h3⟩:=this;exact⟨((lvs p).getD j 0).toNat,by omega,by omega,by rw[Int.toNat_of_nonneg h1];exact⟨h1,h2,h3⟩⟩
theorem lvB_all {p:List Int}{v:Nat}(h:v<p.length):(lvB p p.length).getD v 0=(dep p (v:Int):Int):=lvB_at h h
theorem lv_cell {w:World}{g:Nat}{p:List Int}(h:w.heap[g]? =some (.cells (its (lvB p p.length)) 3 (0,0))){v:Nat}(hv:v<p.length):w.cell? ⟨g,v,none⟩=some (.int .i64 (dep p (v:Int):Int)):=by
 rw[its_cell h (by rw[lvB_len];exact hv),lvB_all hv]
def ChJ (p:List Int)(g gd eb ec:Nat)(w W0:World)(a:Act)(W:World):Prop:=
 a.tmps.size=68∧a.defers=[]∧a.tmps.getD 1 undef= .pointer (some ⟨w.heap.size,0,none⟩)∧a.tmps.getD 5 undef= .pointer (some ⟨g,0,none⟩)∧a.tmps.getD 6 undef= .slice (some ⟨gd,0,none⟩) p.length p.length∧a.tmps.getD 39 undef= .slice (some ⟨eb,0,none⟩) (lvs p).length ec∧a.tmps.getD 40 undef= .int .i64 ((lvs p).length:Int)∧
  ∃q,W=W0.drewN q∧∃j:Nat,a.tmps.getD 41 undef= .int .i64 (j:Int)∧j≤(lvs p).length∧(∀v,v<j→dep p ((lvs p).getD v 0)=dep p ((lvs p).getD 0 0)∧dep p ((lvs p).getD v 0)≤5)
set_option maxRecDepth 100000 in
set_option maxHeartbeats 8000000 in
theorem check_any (p t:List Int)(A B:Option Addr)(c d:Nat)(w:World)(hp:p.length≤100000)(htl:t.length≤100000)(hs:Sl w w.heap.size A (p.flatMap decI))(ht:Sl w w.heap.size B (t.flatMap decI)):
 Calls Tryz.prog 57 #[(.agg #[.slice A p.length c,.slice B t.length d])] w fun e w'=>e= .returned (.int .i64 (chk p t))∧Below w.heap.size w w':=by
 by_cases k1:p.length<1
 ·have i1:(p.length:Int)<1:=by omega
  have HN:=Lib.hid (chk_many (p:=p) (t:=t) (.inl k1));go_enter Tryz.func57,Tryz.ntmps57;go_upto_region 1 with fail;have HX:=Lib.hid (Bx.made w (.slice A p.length c) (.slice B t.length d) 24);generalize w.alloc (.cells #[.slice A p.length c,.slice B t.length d] 24)=W0 at*;have c0:=HX.out.2.2.1;have c1:=HX.out.2.2.2;have SP:=Lib.hid (HX.out.sl hs);have ST:=Lib.hid (HX.out.sl ht);go_quiet(fail);go_wp2_with fail;go_ret;exact⟨by rw[HN.out];rfl,below_drewN HX.out.1 _⟩
 have i1:¬(p.length:Int)<1:=by omega
 by_cases k2:32<p.length
 ·have i2:(32:Int)<(p.length:Int):=by omega
  have HN:=Lib.hid (chk_many (p:=p) (t:=t) (.inr (.inl k2)));go_enter Tryz.func57,Tryz.ntmps57;go_upto_region 1 with fail;have HX:=Lib.hid (Bx.made w (.slice A p.length c) (.slice B t.length d) 24);generalize w.alloc (.cells #[.slice A p.length c,.slice B t.length d] 24)=W0 at*;have c0:=HX.out.2.2.1;have c1:=HX.out.2.2.2;have SP:=Lib.hid (HX.out.sl hs);have ST:=Lib.hid (HX.out.sl ht);go_quiet(fail);go_wp2_with fail;go_ret;exact⟨by rw[HN.out];rfl,below_drewN HX.out.1 _⟩
 have i2:¬(32:Int)<(p.length:Int):=by omega
 by_cases k3:t.length<1
 ·have i3:(t.length:Int)<1:=by omega
  have HN:=Lib.hid (chk_many (p:=p) (t:=t) (.inr (.inr (.inl k3))));go_enter Tryz.func57,Tryz.ntmps57;go_upto_region 1 with fail;have HX:=Lib.hid (Bx.made w (.slice A p.length c) (.slice B t.length d) 24);generalize w.alloc (.cells #[.slice A p.length c,.slice B t.length d] 24)=W0 at*;have c0:=HX.out.2.2.1;have c1:=HX.out.2.2.2;have SP:=Lib.hid (HX.out.sl hs);have ST:=Lib.hid (HX.out.sl ht);go_quiet(fail);go_wp2_with fail;go_ret;exact⟨by rw[HN.out];rfl,below_drewN HX.out.1 _⟩
 have i3:¬(t.length:Int)<1:=by omega
 by_cases k4:32<t.length
 ·have i4:(32:Int)<(t.length:Int):=by omega
  have HN:=Lib.hid (chk_many (p:=p) (t:=t) (.inr (.inr (.inr k4))));go_enter Tryz.func57,Tryz.ntmps57;go_upto_region 1 with fail;have HX:=Lib.hid (Bx.made w (.slice A p.length c) (.slice B t.length d) 24);generalize w.alloc (.cells #[.slice A p.length c,.slice B t.length d] 24)=W0 at*;have c0:=HX.out.2.2.1;have c1:=HX.out.2.2.2;have SP:=Lib.hid (HX.out.sl hs);have ST:=Lib.hid (HX.out.sl ht);go_quiet(fail);go_wp2_with fail;go_ret;exact⟨by rw[HN.out];rfl,below_drewN HX.out.1 _⟩
 have i4:¬(32:Int)<(t.length:Int):=by omega
 have hno:¬manyP p t:=by unfold manyP;omega
 have HTR:=Lib.hid (fun h=>chk_tree (p:=p) (t:=t) hno h);have HFT:=Lib.hid (fun h1 h2=>chk_fit (p:=p) (t:=t) hno h1 h2);have HLT:=Lib.hid (fun W h=>tree_any p A c W (by omega) h);clear hno;go_enter Tryz.func57,Tryz.ntmps57;go_upto_region 1 with fail;have HX:=Lib.hid (Bx.made w (.slice A p.length c) (.slice B t.length d) 24);generalize w.alloc (.cells #[.slice A p.length c,.slice B t.length d] 24)=W0 at*;have c0:=HX.out.2.2.1;have c1:=HX.out.2.2.2;have SP:=Lib.hid (HX.out.sl hs);have ST:=Lib.hid (HX.out.sl ht);have HS:=Lib.hid hs;have HT:=Lib.hid ht;clear hs ht SP ST;go_quiet(fail);have HX1:=Lib.hid (HX.out.drewN nq);generalize W0.drewN nq=W1 at*;clear HX c0 c1;have c0:=HX1.out.2.2.1;have c1:=HX1.out.2.2.2;have SP:=Lib.hid (HX1.out.sl HS.out);have ST:=Lib.hid (HX1.out.sl HT.out);by_cases ktr:treeP p
 ·have hd:decide (treeP p)=true:=decide_eq_true ktr
  rw[hd]at HLT;have KT:=Lib.hid ktr;clear hd ktr;go_wp2_with fail;refine(HLT.out _ SP.out).mono ?_;rintro e wx ⟨rfl,hwx⟩;obtain rfl:=hwx.symm;go_upto_region 6 with fail;refine wp_cut (ChR p (.slice A p.length c) (.slice B t.length d) w) ?_ ?_
  ·rintro a' W2 ⟨hsz,hdf,s1,g,eb,ec,gd,s5,s6,cg,fe,fd,hx⟩
   obtain⟨u,rfl,hu⟩:=frame68 hsz hdf;rw[hu]at s1 s5 s6;simp only[s1,s5,s6];clear hsz hdf s1 s5 s6 hu;clear SP ST c0 c1 HLT;have HFE:=Lib.hid fe;have HFD:=Lib.hid fd;have HX2:=Lib.hid hx;clear fe fd hx;go_wp2_with fail;refine wp_loop (ChJ p g gd eb ec w W2) (fun a' _=>(lvs p).length-(intOf (a'.tmps.getD 41 undef)).toNat) ?_ ?_
   ·exact⟨rfl,rfl,rfl,rfl,rfl,rfl,rfl,0,rfl,0,rfl,Nat.zero_le _,fun v hv=>absurd hv (Nat.not_lt_zero v)⟩
   ·rintro a' W3 ⟨hsz,hdf,s1,s5,s6,s39,s40,qd,hW,j,s41,hj,hgood⟩
    obtain⟨u,rfl,hu⟩:=frame68 hsz hdf;rw[hu]at s1 s5 s6 s39 s40 s41;simp only[s1,s5,s6,s39,s40,s41];clear hsz hdf s1 s5 s6 s39 s40 s41 hu;have HX3:Hid (Bx w W3 (.slice A p.length c) (.slice B t.length d)):=Lib.hid (by rw[hW];exact HX2.out.drewN qd);have HFE3:Hid (∀j,j<(lvs p).length→W3.cell? ⟨eb,j,none⟩=some (.int .i64 ((lvs p).getD j 0))):=Lib.hid (by rw[hW];exact HFE.out);have HFD3:Hid (∀v,v<p.length→W3.cell? ⟨gd,v,none⟩=some (.int .i64 (dep p (v:Int):Int))):=Lib.hid (by rw[hW];exact HFD.out);have cg3:W3.cell? ⟨g,0,none⟩=some (.slice (some ⟨eb,0,none⟩) (lvs p).length ec):=by rw[hW];exact cg
    have HW:=Lib.hid hW;clear hW;have hLL:=lvs_len p;by_cases hlt:j<(lvs p).length
    ·obtain⟨v,hv,hvp,hvl⟩:=lvs_at hlt
     obtain⟨a,ha,hap,hal⟩:=lvs_at (p:=p) (j:=0) (by omega);have e0:=HFE3.out j hlt;have e1:=HFE3.out 0 (by omega);have d0:=HFD3.out v hvp;have d1:=HFD3.out a hap;have i5:(j:Int)<((lvs p).length:Int):=by omega
     have HBAD:=Lib.hid (show¬(dep p (v:Int)=dep p (a:Int)∧dep p (v:Int)≤5)→chk p t=9 from fun h=>HTR.out (.inr fun hf=>h (hf _ (mem_lvs.2 hvl) _ (mem_lvs.2 hal))))
     have HGOOD:=Lib.hid (show dep p (v:Int)=dep p (a:Int)∧dep p (v:Int)≤5→∀v,v<j+1→dep p ((lvs p).getD v 0)=dep p ((lvs p).getD 0 0)∧dep p ((lvs p).getD v 0)≤5 from fun h u hu=>by
      by_cases e:u=j
      ·subst e;rw[hv,ha];exact h
      ·exact hgood u (by omega))
     rw[hv]at e0;rw[ha]at e1;clear hgood hv ha hvl hal;generalize dep p (v:Int)=D at*;generalize dep p (a:Int)=E at*;by_cases h1:D=E
     ·have q1:=nbne_no h1
      by_cases h2:D≤5
      ·have i6:¬(5:Int)<(D:Int):=by omega
       have HN:=Lib.hid (HGOOD.out ⟨h1,h2⟩);clear HBAD HGOOD h1;go_wp2_with fail;go_quiet(fail);go_wp2_with fail;go_roundw
       case rel=>exact⟨rfl,rfl,rfl,rfl,rfl,rfl,rfl,_,by rw[HW.out,World.drewN_drewN],j+1,by go_num,by omega,HN.out⟩
       case measure=>simp[intOf];omega
      ·have i6:(5:Int)<(D:Int):=by omega
       have HN:=Lib.hid (HBAD.out (fun h=>h2 h.2));clear HBAD HGOOD h1;go_wp2_with fail;go_quiet(fail);go_wp2_with fail;go_ret;exact⟨by rw[HN.out];rfl,below_drewN HX3.out.1 _⟩
     ·have q1:=nbne h1
      have HN:=Lib.hid (HBAD.out (fun h=>h1 h.1));clear HBAD HGOOD h1;go_wp2_with fail;go_quiet(fail);go_wp2_with fail;go_ret;exact⟨by rw[HN.out];rfl,below_drewN HX3.out.1 _⟩
    ·obtain rfl:j=(lvs p).length:=by omega
     have hflat:flatP p:=by
      intro v hv u hu;obtain⟨i,hi,rfl⟩:=mem_getD hv;obtain⟨k,hk,rfl⟩:=mem_getD hu;have:=hgood i hi;have:=hgood k hk;omega
     have HFIT:=Lib.hid (HFT.out KT.out hflat);have i5:¬((lvs p).length:Int)<((lvs p).length:Int):=by omega
     have c1:=HX3.out.2.2.2;have hmf:∀(fn:Fn) (first cap:Array Value) (w:World),(Instr.makeFunc fn first cap).run Tryz.prog w= .ok (.func fn first cap) w:=fun _ _ _ _=>rfl;have hC:=cfC_any (lvs p) t B d g eb 0 ec W3 (by omega) (by omega) (HX3.out.sl HT.out) cg3 (fun j hj=>by rw[Nat.zero_add];exact HFE3.out j hj);clear hgood hflat;cases hr:anyF (nin (lvs p)) t with
     |true=>
      have HN:=Lib.hid (HFIT.out.trans (if_neg (nin_yes hr)));rw[hr]at hC;have HC:=Lib.hid hC;clear hC hr;go_wp2_with fail;refine(HC.out).mono ?_;rintro e wx ⟨rfl,hwx⟩;obtain rfl:=hwx.symm;go_wp2_with fail;go_ret;exact⟨by rw[HN.out];rfl,HX3.out.1⟩
     |false=>
      have HN:=Lib.hid (HFIT.out.trans (if_pos (nin_no hr)));rw[hr]at hC;have HC:=Lib.hid hC;clear hC hr;go_wp2_with fail;refine(HC.out).mono ?_;rintro e wx ⟨rfl,hwx⟩;obtain rfl:=hwx.symm;go_wp2_with fail;go_ret;exact⟨by rw[HN.out];rfl,HX3.out.1⟩
  ·intro J K' hJ hK'
   have HL:=Lib.hid (fun W h=>leaves_row p A c W (by omega) (by omega) KT.out h);have HV:=Lib.hid (fun W h=>levels_any p A c W (by omega) KT.out h);have SPd:Hid (Sl W1.drew W1.drew.heap.size A (p.flatMap decI)):=Lib.hid SP.out;have HXd:Hid (Bx w W1.drew (.slice A p.length c) (.slice B t.length d)):=Lib.hid ⟨Below.drew HX1.out.1,HX1.out.2⟩;have hw1:w.heap.size<W1.heap.size:=HX1.out.2.1;have d0:W1.drew.cell? ⟨w.heap.size,0,none⟩=some (.slice A p.length c):=c0;refine wp_region_held_drew (S:=fun V=>V.cell? ⟨w.heap.size,0,none⟩=some (.slice A p.length c)) (by kernel_rfl) d0 (fun hHeld=> ?_);clear c0 c1 d0 SP ST HX1 HLT;generalize W1.drew=X0 at*;have hb0:w.heap.size<X0.heap.size:=HXd.out.2.1;refine take_to 0 (some 33) (v:= ?_) rfl rfl (by kernel_rfl) (by kernel_rfl) (by kernel_rfl) (fun _ _ _ h=>h) (Or.inl ⟨by rfl,?_⟩) (by first|trivial|assumption) ?_;rotate_left;focus(intro w hSw;(try dsimp only at hSw);go_simp;(try with_reducible rfl))
   simp only[Act.put,List.setIfInBounds_toArray,List.set_cons_zero,List.set_cons_succ];refine take_to 1 (some 34) (v:= ?_) rfl rfl (by kernel_rfl) (by kernel_rfl) (by kernel_rfl) (fun _ _ _ h=>h) (Or.inl ⟨by rfl,?_⟩) (by first|trivial|assumption) ?_;rotate_left;focus(intro w hSw;(try dsimp only at hSw);go_simp;(try with_reducible rfl))
   simp only[Act.put,List.setIfInBounds_toArray,List.set_cons_zero,List.set_cons_succ];refine take_to 3 (some 36) (v:= ?_) rfl rfl (by kernel_rfl) (by kernel_rfl) (by kernel_rfl) (fun _ _ _ h=>h) (Or.inl ⟨by rfl,?_⟩) (by first|trivial|assumption) ?_;rotate_left;focus(intro w hSw;(try dsimp only at hSw);go_simp;(try with_reducible rfl))
   simp only[Act.put,List.setIfInBounds_toArray,List.set_cons_zero,List.set_cons_succ];refine take_to 4 (some 37) (v:= ?_) rfl rfl (by kernel_rfl) (by kernel_rfl) (by kernel_rfl) (fun _ _ _ h=>h) (Or.inl ⟨by rfl,?_⟩) (by first|trivial|assumption) ?_;rotate_left;focus(intro w hSw;(try dsimp only at hSw);go_simp;(try with_reducible rfl))
   simp only[Act.put,List.setIfInBounds_toArray,List.set_cons_zero,List.set_cons_succ];refine wpAnyH_ready (rs:=[2,6]) (by kernel_rfl) (by simp) ?_;refine AllReadyH.cons rfl (fun K hK=> ?_) (AllReadyH.cons rfl (fun K hK=> ?_) AllReadyH.nil)
   ·go_simp
    refine(HL.out _ SPd.out).mono ?_;rintro e wl ⟨eb,ec,rfl,le1,le2,fe,bl⟩;have HXl:=Lib.hid (HXd.out.step bl);have SW:=Lib.hid (SPd.out.step bl);have FE0:=Lib.hid fe;have hbl:=HXl.out.2.1;clear fe bl;go_simp;refine hK.out _ _ HXl.out.2.2.1 (fun hHeld=> ?_);refine wpAnyH_ready (rs:=[5,6]) (by kernel_rfl) (by simp) ?_;refine AllReadyH.cons rfl (fun K hK=> ?_) (AllReadyH.cons rfl (fun K hK=> ?_) AllReadyH.nil)
    ·go_simp
     refine(HV.out _ SW.out).mono ?_;rintro e wd ⟨rfl,fd,bd⟩;have HXv:=Lib.hid (HXl.out.step bd);have FE:=Lib.hid (fun j hj=>(bd.cell (p:=⟨eb,j,none⟩) le2).trans (FE0.out j hj));have FD:=Lib.hid fd;have hgd:=lt_of_blk fd;have heb:eb<wd.heap.size:=Nat.lt_of_lt_of_le le2 bd.size;clear fd bd;go_simp;refine hK.out _ _ HXv.out.2.2.1 (fun hHeld=> ?_);refine wpAnyH_ready (rs:=[6]) (by kernel_rfl) (by simp) ?_;refine AllReadyH.cons rfl (fun K hK=> ?_) AllReadyH.nil;go_simp;have G0:=Lib.hid (blk_new wd (.cells #[.slice none 0 0] 22));have HXa:=Lib.hid (HXv.out.step (below_new wd (.cells #[.slice none 0 0] 22)));refine hK.out _ _ HXa.out.2.2.1 (fun hHeld=> ?_);have g0:=blk_cell G0.out 0 (by simp);have g1:=blk_free G0.out 0;refine wpAnyH_ready (rs:=[7]) (by kernel_rfl) (by simp) ?_;refine AllReadyH.cons rfl (fun K hK=> ?_) AllReadyH.nil;go_simp;have HX9:=Lib.hid (HXv.out.step (below_new wd (.cells #[.slice (some ⟨eb,0,none⟩) (lvs p).length ec] 22)));have hG:=blk_cell (blk_new wd (.cells #[.slice (some ⟨eb,0,none⟩) (lvs p).length ec] 22)) 0 (by simp);have hb9:=below_new wd (.cells #[.slice (some ⟨eb,0,none⟩) (lvs p).length ec] 22);have HFE:=Lib.hid (fun j hj=>(hb9.cell (p:=⟨eb,j,none⟩) heb).trans (FE.out j hj));have HFD:=Lib.hid (fun(v:Nat) (hv:v<p.length)=>(hb9.cell (p:=⟨wl.heap.size,v,none⟩) hgd).trans (lv_cell FD.out hv));clear hb9 g0 g1;refine hK.out _ _ HX9.out.2.2.1 (fun hHeld=> ?_);refine take_to 8 (some 6) (v:= ?_) rfl rfl (by kernel_rfl) (by kernel_rfl) (by kernel_rfl) (fun _ _ _ h=>h) (Or.inl ⟨by rfl,?_⟩) (by first|trivial|assumption) ?_;rotate_left;focus(intro w hSw;(try dsimp only at hSw);go_simp;(try with_reducible rfl))
     simp only[Act.put,List.setIfInBounds_toArray,List.set_cons_zero,List.set_cons_succ];refine wpAnyH_done (by kernel_rfl) ?_ _;exact hK' _ _ (Met.intro (hJ _ _ ⟨rfl,rfl,rfl,wd.heap.size,eb,ec,wl.heap.size,rfl,rfl,hG,HFE.out,HFD.out,HX9.out⟩))
    ·go_simp
     have HXa:=Lib.hid (HXl.out.step (below_new wl (.cells #[.slice none 0 0] 22)));have G0:=Lib.hid (blk_new wl (.cells #[.slice none 0 0] 22));have FE1:=Lib.hid (fun j hj=>((below_new wl (.cells #[.slice none 0 0] 22)).cell (p:=⟨eb,j,none⟩) le2).trans (FE0.out j hj));have SW1:=Lib.hid (SW.out.push (.cells #[.slice none 0 0] 22));have hsz:(wl.alloc (.cells #[.slice none 0 0] 22)).heap.size=wl.heap.size+1:=by simp
     refine hK.out _ _ HXa.out.2.2.1 (fun hHeld=> ?_);clear FE0 SW HXl;generalize hwa:wl.alloc (.cells #[.slice none 0 0] 22)=wa at*;clear hwa;refine wpAnyH_ready (rs:=[5]) (by kernel_rfl) (by simp) ?_;refine AllReadyH.cons rfl (fun K hK=> ?_) AllReadyH.nil;go_simp;refine(HV.out _ SW1.out).mono ?_;rintro e wd ⟨rfl,fd,bd⟩;have HXv:=Lib.hid (HXa.out.step bd);have FE:=Lib.hid (fun j hj=>(bd.cell (p:=⟨eb,j,none⟩) (by rw[hsz];exact Nat.lt_succ_of_lt le2)).trans (FE1.out j hj));have FD:=Lib.hid fd;have GV:=Lib.hid ((bd.block wl.heap.size (by omega)).trans G0.out);clear fd bd;go_simp;refine hK.out _ _ HXv.out.2.2.1 (fun hHeld=> ?_);have g0:=blk_cell GV.out 0 (by simp);have g1:=blk_free GV.out 0;refine wpAnyH_ready (rs:=[7]) (by kernel_rfl) (by simp) ?_;refine AllReadyH.cons rfl (fun K hK=> ?_) AllReadyH.nil;go_simp;have HX9:=Lib.hid (HXv.out.set (g:=wl.heap.size) (by omega) (.slice (some ⟨eb,0,none⟩) (lvs p).length ec));have hG:=blk_cell (blk_set GV.out 0 (.slice (some ⟨eb,0,none⟩) (lvs p).length ec)) 0 (by simp);have HFE:=Lib.hid (fun j hj=>(cell_set_ne (i:=j) (show eb≠wl.heap.size by omega) (.slice (some ⟨eb,0,none⟩) (lvs p).length ec)).trans (FE.out j hj));have HFD:=Lib.hid (fun(v:Nat) (hv:v<p.length)=>(cell_set_ne (i:=v) (show wa.heap.size≠wl.heap.size by omega) (.slice (some ⟨eb,0,none⟩) (lvs p).length ec)).trans (lv_cell FD.out hv));clear g0 g1;refine hK.out _ _ HX9.out.2.2.1 (fun hHeld=> ?_);refine take_to 8 (some 6) (v:= ?_) rfl rfl (by kernel_rfl) (by kernel_rfl) (by kernel_rfl) (fun _ _ _ h=>h) (Or.inl ⟨by rfl,?_⟩) (by first|trivial|assumption) ?_;rotate_left;focus(intro w hSw;(try dsimp only at hSw);go_simp;(try with_reducible rfl))
     simp only[Act.put,List.setIfInBounds_toArray,List.set_cons_zero,List.set_cons_succ];refine wpAnyH_done (by kernel_rfl) ?_ _;exact hK' _ _ (Met.intro (hJ _ _ ⟨rfl,rfl,rfl,wl.heap.size,eb,ec,wl.heap.size+1,rfl,rfl,hG,HFE.out,(by rw[←hsz];exact HFD.out),HX9.out⟩))
   ·go_simp
    have HXa:=Lib.hid (HXd.out.step (below_new X0 (.cells #[.slice none 0 0] 22)));have G0:=Lib.hid (blk_new X0 (.cells #[.slice none 0 0] 22));have SW1:=Lib.hid (SPd.out.push (.cells #[.slice none 0 0] 22));have hsz:(X0.alloc (.cells #[.slice none 0 0] 22)).heap.size=X0.heap.size+1:=by simp
    refine hK.out _ _ HXa.out.2.2.1 (fun hHeld=> ?_);clear SPd HXd;generalize hwa:X0.alloc (.cells #[.slice none 0 0] 22)=wa at*;clear hwa;refine wpAnyH_ready (rs:=[2]) (by kernel_rfl) (by simp) ?_;refine AllReadyH.cons rfl (fun K hK=> ?_) AllReadyH.nil;go_simp;refine(HL.out _ SW1.out).mono ?_;rintro e wl ⟨eb,ec,rfl,le1,le2,fe,bl⟩;have HXl:=Lib.hid (HXa.out.step bl);have SW:=Lib.hid (SW1.out.step bl);have FE0:=Lib.hid fe;have G1:=Lib.hid ((bl.block X0.heap.size (by omega)).trans G0.out);have hxl:=lt_of_blk G1.out;clear fe bl;go_simp;refine hK.out _ _ HXl.out.2.2.1 (fun hHeld=> ?_);refine wpAnyH_ready (rs:=[5]) (by kernel_rfl) (by simp) ?_;refine AllReadyH.cons rfl (fun K hK=> ?_) AllReadyH.nil;go_simp;refine(HV.out _ SW.out).mono ?_;rintro e wd ⟨rfl,fd,bd⟩;have HXv:=Lib.hid (HXl.out.step bd);have FE:=Lib.hid (fun j hj=>(bd.cell (p:=⟨eb,j,none⟩) le2).trans (FE0.out j hj));have FD:=Lib.hid fd;have GV:=Lib.hid ((bd.block X0.heap.size hxl).trans G1.out);clear fd bd;go_simp;refine hK.out _ _ HXv.out.2.2.1 (fun hHeld=> ?_);have g0:=blk_cell GV.out 0 (by simp);have g1:=blk_free GV.out 0;refine wpAnyH_ready (rs:=[7]) (by kernel_rfl) (by simp) ?_;refine AllReadyH.cons rfl (fun K hK=> ?_) AllReadyH.nil;go_simp;have HX9:=Lib.hid (HXv.out.set (g:=X0.heap.size) (by omega) (.slice (some ⟨eb,0,none⟩) (lvs p).length ec));have hG:=blk_cell (blk_set GV.out 0 (.slice (some ⟨eb,0,none⟩) (lvs p).length ec)) 0 (by simp);have HFE:=Lib.hid (fun j hj=>(cell_set_ne (i:=j) (show eb≠X0.heap.size by omega) (.slice (some ⟨eb,0,none⟩) (lvs p).length ec)).trans (FE.out j hj));have HFD:=Lib.hid (fun(v:Nat) (hv:v<p.length)=>(cell_set_ne (i:=v) (show wl.heap.size≠X0.heap.size by omega) (.slice (some ⟨eb,0,none⟩) (lvs p).length ec)).trans (lv_cell FD.out hv));clear g0 g1;refine hK.out _ _ HX9.out.2.2.1 (fun hHeld=> ?_);refine take_to 8 (some 6) (v:= ?_) rfl rfl (by kernel_rfl) (by kernel_rfl) (by kernel_rfl) (fun _ _ _ h=>h) (Or.inl ⟨by rfl,?_⟩) (by first|trivial|assumption) ?_;rotate_left;focus(intro w hSw;(try dsimp only at hSw);go_simp;(try with_reducible rfl))
    simp only[Act.put,List.setIfInBounds_toArray,List.set_cons_zero,List.set_cons_succ];refine wpAnyH_done (by kernel_rfl) ?_ _;exact hK' _ _ (Met.intro (hJ _ _ ⟨rfl,rfl,rfl,X0.heap.size,eb,ec,wl.heap.size,rfl,rfl,hG,HFE.out,HFD.out,HX9.out⟩))
 ·have hd:decide (treeP p)=false:=decide_eq_false ktr
  rw[hd]at HLT;have HN:=Lib.hid (HTR.out (.inl ktr));clear hd ktr;go_wp2_with fail;refine(HLT.out _ SP.out).mono ?_;rintro e wx ⟨rfl,hwx⟩;obtain rfl:=hwx.symm;go_wp2_with fail;go_ret;exact⟨by rw[HN.out];rfl,HX1.out.1⟩
end Go.Proofs.YtfmiioddhpkdkaaGreat.Tp
namespace Go.Proofs.YtfmiioddhpkdkaaGreat.Tp
open Go.RowKit Go.Proofs.YtfmiioddhpkdkaaGreat.Li Go.Proofs.YtfmiioddhpkdkaaGreat.De Go.Proofs.YtfmiioddhpkdkaaGreat.Ara
theorem chk_len {p t:List Int}(h:chk p t=0):0<p.length∧p.length≤32∧0<t.length∧t.length≤32:=by
 have:=(chk_ok h).1;unfold manyP at this;omega
theorem frame25 {a:Act}(h:a.tmps.size=25)(hd:a.defers=[]):∃u:Nat→Value,a={tmps:= #[u 0,u 1,u 2,u 3,u 4,u 5,u 6,u 7,u 8,u 9,u 10,u 11,u 12,u 13,u 14,u 15,u 16,u 17,u 18,u 19,u 20,u 21,u 22,u 23,u 24],defers:=[]}∧∀n,a.tmps.getD n undef=u n:=by
 refine⟨fun n=>a.tmps.getD n undef,?_,fun _=>rfl⟩;have h1:=arr_lit a.tmps h;cases a with
 |mk t d=>
  simp only at hd h1;subst hd;congr 1
end Go.Proofs.YtfmiioddhpkdkaaGreat.Tp
namespace Go.Proofs.YtfmiioddhpkdkaaGreat.Tp
open Go.RowKit Go.Proofs.YtfmiioddhpkdkaaGreat.Li Go.Proofs.YtfmiioddhpkdkaaGreat.De Go.Proofs.YtfmiioddhpkdkaaGreat.Ara
theorem grown_mod {w w':World}{row:Option Nat}(h:w.grownBy w' row):Mod row.toList w w':=
 ⟨h.os,h.tape,h.output,h.size,fun k hk hn=>h.block k hk (fun e=>hn (by rw[←e];simp))⟩
theorem own_apart {S:List Nat}{w w':World}{base:Nat}{e:TypeId}{size:Nat}{v:Value}{n:Nat}{xs:List Value}(h:w.ownsRow base e size v n xs)(hm:Mod S w w')(hb:∀b,v.ownBlock=some b→b∉S):w'.ownsRow base e size v n xs:=by
 obtain⟨h1,h2⟩:=h;refine⟨h1,?_⟩;rcases h2 with h2|⟨g,cap,cur,rfl,hg,hbk,rest⟩
 ·exact .inl h2
 ·exact .inr ⟨g,cap,cur,rfl,hg,hm.blk hbk (hb g rfl),rest⟩
theorem own_block {w:World}{base:Nat}{e:TypeId}{size:Nat}{v:Value}{n:Nat}{xs:List Value}(h:w.ownsRow base e size v n xs){b:Nat}(hb:v.ownBlock=some b):base≤b∧b<w.heap.size:=by
 rcases h.2 with⟨rfl,_⟩|⟨g,cap,cur,rfl,hg,hbk,rest⟩
 ·cases hb
 ·simp[Value.ownBlock]at hb
  subst hb;exact⟨hg,lt_of_blk hbk⟩
theorem wpList_append1_at {P:Program}{ops:Array Oper}{rest:List Oper}{o:Oper}{a:Act}{Q:Exit→Act→World→Prop}(s x:Operand)(t e:TypeId)(z:Value)(size bytes:Nat)
 (hgd:o.guard=none) (ho:o.op= .call {callee:= .builtin .append,args:= #[s,x],argTypes:= #[t,t]}) (ht:P.underlying t=some (.slice e))
 (hinfo:(P.info? e).map (fun i=>(i.zero,i.size,i.bytes))=some (some z,size,bytes)) (hzs:z.cells.size=size) (hsz:0<size)
 (base:Nat) (w:World) (v:Value) (n:Nat) (xs:List Value) (news:Array Value) (e':TypeId) (c g:Nat) (hown:w.ownsRow base e size v n xs) (hs:a.eval s=v) (hx:a.eval x= .slice (some ⟨g,0,none⟩) 1 c) (hgs:w.heap.size=g)
 (hl:news.size=size) (h1:∀u∈news.toList,u.oneCell'=true) (h63:n+1≤maxLen) (hbytes:(n+1)*bytes≤140737488355328) (hbase:base≤w.heap.size)
 (h:∀v' w',Hid (w'.ownsRow base e size v' (n+1) (xs++news.toList))→Hid (w.grownBy w' v.ownBlock)→Hid (∀b,v'.ownBlock=some b→v.ownBlock=some b∨w.heap.size≤b)→wpList P ops Q rest (a.put o.dst v') w'):
 wpList P ops Q (o::rest) a (w.alloc (.cells news e')):=by
 subst hgs;obtain⟨i0,hi0,hz0,hz1,hz2⟩:=info_parts hinfo;refine wpList_append_own_at _ hgd s x t ho base e i0 z size bytes ht hi0 hz0 hz1 hz2 hzs hsz v n xs hs (hown.alloc _) ⟨w.heap.size,0,none⟩ 1 c news.toList hx (by simpa using hl) ?_ h1 h63 hbytes (by simp;omega) ?_
 ·intro j u hu
  have hadd:(⟨w.heap.size,0,none⟩:Addr).add j=⟨w.heap.size,j,none⟩:=by unfold Addr.add;split<;>simp_all
  rw[hadd,World.cell?_alloc_at _ _ _ _ rfl];simpa using hu
 ·intro v' w' h2 h3 _ h4
  have hg:=grown_trans (World.grownBy_alloc w (.cells news e') v.ownBlock) h3;refine h v' w' h2 hg (fun b hb=> ?_);rcases h4 with h4|h4
  ·left;rw[←h4];exact hb
  ·right
   rw[h4]at hb;injection hb with hb;rw[←hb];simp
def Row (B G:Nat)(W:World)(v:Value)(xs:List Int):Prop:=W.ownsRow B 3 1 v xs.length (xs.map (Value.int .i64))∧∀b,v.ownBlock=some b→b≠G
def Apart (v u:Value):Prop:=∀b,v.ownBlock=some b→u.ownBlock≠some b
theorem Apart.symm {v u:Value}(h:Apart v u):Apart u v:=fun b hb e=>h b e hb
def Tri (B G:Nat)(W:World)(a b c:Value)(la lb lc:List Int):Prop:=
 Row B G W a la∧Row B G W b lb∧Row B G W c lc∧Apart a b∧Apart a c∧Apart b c∧B≤G∧G<W.heap.size
section
variable {B G:Nat}{W W':World}{a b c:Value}{la lb lc:List Int}
theorem Row.mod {S:List Nat}{v:Value}{xs:List Int}(h:Row B G W v xs)(hm:Mod S W W')(hS:∀x∈S,x<B∨x=G):Row B G W' v xs:=
 ⟨own_apart h.1 hm (fun b hb hx=>by have:=h.2 b hb;have:=(own_block h.1 hb).1;have:=hS b hx;omega),h.2⟩
theorem Tri.mod {S:List Nat}(h:Tri B G W a b c la lb lc)(hm:Mod S W W')(hS:∀x∈S,x<B∨x=G):Tri B G W' a b c la lb lc:=by
 obtain⟨h1,h2,h3,h4,h5,h6,h7,h8⟩:=h;exact⟨h1.mod hm hS,h2.mod hm hS,h3.mod hm hS,h4,h5,h6,h7,Nat.lt_of_lt_of_le h8 hm.size⟩
theorem Tri.own (h:Tri B G W a b c la lb lc):W.ownsRow B 3 1 c lc.length (lc.map (Value.int .i64)):=h.2.2.1.1
theorem Tri.push {c':Value}{x:Int}(h:Tri B G W a b c la lb lc)(hown:W'.ownsRow B 3 1 c' (lc.length+1) (lc.map (Value.int .i64)++ [.int .i64 x]))(hg:W.grownBy W' c.ownBlock)(hn:∀b,c'.ownBlock=some b→c.ownBlock=some b∨W.heap.size≤b):
 Tri B G W' a b c' la lb (lc++ [x])∧Mod c.ownBlock.toList W W'∧∀y∈c.ownBlock.toList,B≤y∧y≠G:=by
 obtain⟨h1,h2,h3,h4,h5,h6,h7,h8⟩:=h;have hm:=grown_mod hg;have hS:∀x∈c.ownBlock.toList,c.ownBlock=some x:=by simp
 have key:∀v,(∀b,v.ownBlock=some b→b<W.heap.size)→Apart v c→Apart v c':=fun v hv ha b hb e=>by
  rcases hn b e with h|h
  ·exact ha b hb h
  ·have:=hv b hb;omega
 refine⟨⟨⟨own_apart h1.1 hm (fun b hb hx=>h5 b hb (hS b hx)),h1.2⟩,⟨own_apart h2.1 hm (fun b hb hx=>h6 b hb (hS b hx)),h2.2⟩,⟨by simpa using hown,fun b hb=> ?_⟩,h4,key a (fun b hb=>(own_block h1.1 hb).2) h5,key b (fun b hb=>(own_block h2.1 hb).2) h6,h7,Nat.lt_of_lt_of_le h8 hm.size⟩,hm,fun y hy=>⟨(own_block h3.1 (hS y hy)).1,h3.2 y (hS y hy)⟩⟩;rcases hn b hb with h|h
 ·exact h3.2 b h
 ·omega
theorem Tri.next (h:Tri B G W a b c la lb lc):Tri B G W a c (.slice none 0 0) la lc []:=by
 obtain⟨h1,h2,h3,h4,h5,h6,h7,h8⟩:=h;exact⟨h1,h3,⟨World.ownsRow_nil _ _ _ _,fun b hb=>by cases hb⟩,h5,(fun b hb e=>by cases e),(fun b hb e=>by cases e),h7,h8⟩
theorem Tri.clear (h:Tri B G W a b c la lb lc):Tri B G W a b (.slice none 0 0) la lb []:=by
 obtain⟨h1,h2,h3,h4,h5,h6,h7,h8⟩:=h;exact⟨h1,h2,⟨World.ownsRow_nil _ _ _ _,fun b hb=>by cases hb⟩,h4,(fun b hb e=>by cases e),(fun b hb e=>by cases e),h7,h8⟩
theorem Row.cell {v:Value}{xs:List Int}(h:Row B G W v xs)(hn:0<xs.length):∃g cap,v= .slice (some ⟨g,0,none⟩) xs.length cap∧∀j,j<xs.length→W.cell? ⟨g,j,none⟩=some (.int .i64 (xs.getD j 0)):=by
 obtain⟨A,cp,rfl,_,_,hsl⟩:=own_slice h.1;have hsl2:Sl W W.heap.size A (xs.flatMap decI):=by rw[Ara.flatI];exact hsl
 obtain⟨h1,h2⟩:=h;rcases h1.2 with⟨h3,h4⟩|⟨g,cap,cur,h3,hg,hbk,rest⟩
 ·omega
 ·injection h3 with h3 _ h5
  subst h3;obtain⟨b,off,e,_,hcell⟩:=sl_g hsl2 hn;injection e with e;injection e with e1 e2;subst e1 e2;exact⟨g,cp,rfl,fun j hj=>by have:=hcell j hj;rwa [Nat.zero_add]at this⟩
theorem Row.slice {v:Value}{xs:List Int}(h:Row B G W v xs):∃A cap,v= .slice A xs.length cap∧Sl W W.heap.size A (xs.flatMap decI):=by
 obtain⟨A,cp,rfl,_,_,hsl⟩:=own_slice h.1;exact⟨A,cp,rfl,by rw[Ara.flatI];exact hsl⟩
end
def EvW (w W:World)(x y:Value):Prop:=Below w.heap.size w W∧W.heap[w.heap.size]? =some (.cells #[.slice none 0 0,.slice none 0 0] 24 (0,0))∧W.heap[w.heap.size+2]? =some (.cells #[x,y] 24 (0,0))
theorem EvW.mod {w W W':World}{x y:Value}{S:List Nat}(h:EvW w W x y)(hm:Mod S W W')(hS:∀k∈S,w.heap.size+1≤k∧k≠w.heap.size+2):EvW w W' x y:=
 ⟨Mod.below_of h.1 hm h.1.size (fun k hk=>by have:=hS k hk;omega),hm.blk h.2.1 (fun hk=>by have:=hS _ hk;omega),hm.blk h.2.2 (fun hk=>(hS _ hk).2 rfl)⟩
theorem Tri.set {B G k:Nat}{W:World}{a b c:Value}{la lb lc:List Int}(h:Tri B G W a b c la lb lc)(v:Value):Tri B G (W.setCell ⟨G,k,none⟩ v) a b c la lb lc:=
 h.mod (S:=[G]) ((Mod.refl _ _).setCell (by simp) _) (fun x hx=>by rw[List.mem_singleton]at hx;exact .inr hx)
end Go.Proofs.YtfmiioddhpkdkaaGreat.Tp
namespace Go.Proofs.YtfmiioddhpkdkaaGreat.Tp
def cntK (t:List Int)(x:Int):Nat→Nat
 |0=>0
 |k+1=>cntK t x k+if t.getD k 0=x then 1 else 0
def ndI (p t:List Int)(k:Nat):Nat:=(idxI (lvs p) (t.getD k 0)).toNat
def slI (t:List Int)(k:Nat):Nat:=cntK t (t.getD k 0) k
def mtI (p t:List Int)(n:Nat):Nat:=cntK t ((lvs p).getD n 0) t.length
theorem cntK_le (t:List Int)(x:Int){k j:Nat}(h:k≤j):cntK t x k≤cntK t x j:=by
 induction j with
 |zero=>obtain rfl:k=0:=by omega
        exact Nat.le_refl _
 |succ j ih=>
  by_cases e:k=j+1
  ·rw[e];exact Nat.le_refl _
  ·exact Nat.le_trans (ih (by omega)) (Nat.le_add_right _ _)
theorem cntK_self (t:List Int)(k:Nat):cntK t (t.getD k 0) (k+1)=cntK t (t.getD k 0) k+1:=by
 show _+(if t.getD k 0=t.getD k 0 then 1 else 0)=_;rw[if_pos rfl]
theorem cntK_bound (t:List Int)(x:Int)(k:Nat):cntK t x k≤k:=by
 induction k with
 |zero=>exact Nat.le_refl _
 |succ k ih=>
  show cntK t x k+_≤_;split<;>omega
theorem nd_at {p t:List Int}{k:Nat}(h:t.getD k 0∈lvs p):ndI p t k<(lvs p).length∧(lvs p).getD (ndI p t k) 0=t.getD k 0∧idxI (lvs p) (t.getD k 0)=(ndI p t k:Int):=by
 obtain⟨j,h1,h2,h3⟩:=idx_at (n:=0) h;have e:idxI (lvs p) (t.getD k 0)=(j:Int):=by unfold idxI;rw[h2,Nat.zero_add]
 have e2:ndI p t k=j:=by unfold ndI;rw[e];exact Int.toNat_natCast j
 rw[e2];exact⟨h1,h3,e⟩
theorem chk_mem {p t:List Int}(h:chk p t=0){k:Nat}(hk:k<t.length):t.getD k 0∈lvs p:=mem_lvs.2 ((chk_ok h).2.2.2 _ (getD_mem hk))
theorem lvs_nodup (p:List Int):(lvs p).Nodup:=by
 unfold lvs lvK;refine List.Pairwise.filter _ ?_;refine List.Pairwise.map _ (fun a b (hab:a≠b) e=>hab (by omega)) List.nodup_range
section
variable {p t:List Int}(h:chk p t=0)
include h
theorem nd_lt {k:Nat}(hk:k<t.length):ndI p t k<(lvs p).length∧slI t k<mtI p t (ndI p t k):=by
 obtain⟨h1,h2,_⟩:=nd_at (chk_mem h hk);refine⟨h1,?_⟩;unfold mtI slI;rw[h2];have:=cntK_self t k;have:=cntK_le t (t.getD k 0) (show k+1≤t.length from hk);omega
theorem nd_inj {k u:Nat}(hk:k<t.length)(hu:u<t.length)(e:ndI p t k=ndI p t u)(e2:slI t k=slI t u):k=u:=by
 obtain⟨_,h2,_⟩:=nd_at (chk_mem h hk);obtain⟨_,h4,_⟩:=nd_at (chk_mem h hu);rw[e,h4]at h2
 have key:∀a b,a<b→t.getD a 0=t.getD b 0→slI t a<slI t b:=fun a b hab h9=>by
  have s1:=cntK_self t a;have s2:=cntK_le t (t.getD a 0) (show a+1≤b from hab);unfold slI;rw[←h9];omega
 rcases Nat.lt_trichotomy k u with h5|h5|h5
 ·have:=key k u h5 h2.symm
  omega
 ·exact h5
 ·have:=key u k h5 h2
  omega
end
theorem mt_le (p t:List Int)(n:Nat):mtI p t n≤t.length:=cntK_bound _ _ _
end Go.Proofs.YtfmiioddhpkdkaaGreat.Tp
namespace Go.Proofs.YtfmiioddhpkdkaaGreat.Pa
open Go.RowKit Go.Proofs.YtfmiioddhpkdkaaGreat.Tp Go.Proofs.YtfmiioddhpkdkaaGreat.Li Go.Proofs.YtfmiioddhpkdkaaGreat.De Go.Proofs.YtfmiioddhpkdkaaGreat.Ara
def Rw (W:World)(b:Nat)(l:List Int):Prop:=∀j,j<l.length→W.cell? ⟨b,j,none⟩=some (.int .i64 (l.getD j 0))
theorem cell_mod {S:List Nat}{a w:World}(hm:Mod S a w){p:Addr}(hp:p.block<a.heap.size)(hn:p.block∉S):w.cell? p=a.cell? p:=by
 unfold World.cell?;rw[hm.block _ hp hn]
theorem Rw.mod {S:List Nat}{a w:World}{b:Nat}{l:List Int}(h:Rw a b l)(hm:Mod S a w)(hb:b<a.heap.size)(hn:b∉S):Rw w b l:=fun j hj=>(cell_mod hm (p:=⟨b,j,none⟩) hb hn).trans (h j hj)
theorem Rw.of_own {B:Nat}{W:World}{v:Value}{l:List Int}(h1:W.ownsRow B 3 1 v l.length (l.map (Value.int .i64)))(hn:0<l.length):∃g cap,v= .slice (some ⟨g,0,none⟩) l.length cap∧B≤g∧g<W.heap.size∧Rw W g l:=by
 obtain⟨A2,c2,rfl,_,_,hs2⟩:=own_slice h1;have hs3:Sl W W.heap.size A2 (l.flatMap decI):=by rw[Ara.flatI];exact hs2
 rcases h1.2 with⟨_,h4⟩|⟨g,cp,cur,h3,hg,hbk,rest⟩
 ·omega
 ·injection h3 with h3 _ h5
  subst h3;obtain⟨b,off,e,hb,hcell⟩:=sl_g hs3 hn;injection e with e;injection e with e1 e2;subst e1 e2;exact⟨g,c2,rfl,hg,hb,fun j hj=>by have:=hcell j hj;rwa [Nat.zero_add]at this⟩
set_option maxRecDepth 100000 in
theorem clone_int (l:List Int)(A:Option Addr)(cap:Nat)(w:World)(hn:0<l.length)(hm:l.length≤1000)(hs:Sl w w.heap.size A (l.flatMap decI)):
 Calls Tryz.prog 59 #[.slice A l.length cap] w fun e w'=>∃g c,e= .returned (.slice (some ⟨g,0,none⟩) l.length c)∧w.heap.size≤g∧g<w'.heap.size∧Rw w' g l∧Below w.heap.size w w':=by
 suffices h:Calls Tryz.prog 59 #[.slice A l.length cap] w fun e w'=>∃v,e= .returned v∧w'.ownsRow w.heap.size 3 1 v l.length (l.map (Value.int .i64))∧Below w.heap.size w w' by
  refine h.mono ?_;rintro e w' ⟨v,rfl,h1,h2⟩;obtain⟨g,c,rfl,a,b,d⟩:=Rw.of_own h1 hn;exact⟨g,c,rfl,a,b,d,h2⟩
 obtain⟨b,off,rfl,hb,hcell⟩:=sl_g hs hn;obtain⟨i0,hi0,hz0,hz1,hz2⟩:=info_parts infoI;have HC:=Lib.hid hcell;have hq:∀W:World,(binOp .eql 22 (.slice (some ⟨b,off,none⟩) l.length cap) (.slice none 0 0)).run Tryz.prog W= .ok (.bool false) W:=fun W=>by kernel_rfl
 clear hs hcell;go_enter Tryz.func59,Tryz.ntmps59;go_wp2_with(at_builtin;refine wpList_append_own_at _ rfl (.tmp 5) (.tmp 6) 22 rfl w.heap.size 3 i0 (.int .i64 0) 1 8 Tryz.underlying22 hi0 hz0 hz1 hz2 rfl (by decide) (.slice (some ⟨w.heap.size,0,none⟩) 0 0) 0 [] rfl ?own ⟨b,off,none⟩ l.length cap (l.map (Value.int .i64)) rfl (by simp) ?cells ?one ?m63 ?by_ ?base ?k;case' k=>intro v' w2 hown2 hg2 _ _)
 case own=>exact World.ownsRow_made w #[] 0 (Nat.le_refl _) (Nat.zero_le _) rfl
 case cells=>
  intro j u hu;have hj:j<l.length:=by have:=(List.getElem?_eq_some_iff.1 hu).1;simpa using this
  have hadd:(⟨b,off,none⟩:Addr).add j=⟨b,off+j,none⟩:=by unfold Addr.add;split<;>simp_all
  rw[hadd,(below_new w (.cells #[] 3)).cell (p:=⟨b,off+j,none⟩) hb,HC.out j hj,←hu];simp[List.getElem?_eq_getElem hj]
 case one=>intro u hu;obtain⟨y,_,rfl⟩:=List.mem_map.1 hu;rfl
 case m63=>simp only[maxLen];omega
 case by_=>omega
 case base=>simp
 go_wp2_with fail;go_ret;refine⟨v',rfl,by simpa using hown2,?_⟩;exact((below_new w (.cells #[] 3)).grown hg2 (by simp) (fun k hk=>by simp[Value.ownBlock]at hk;omega))
set_option maxRecDepth 100000 in
theorem tleaves_row (p t:List Int)(A B:Option Addr)(c d:Nat)(w:World)(h:chk p t=0)(hs:Sl w w.heap.size A (p.flatMap decI))(ht:Sl w w.heap.size B (t.flatMap decI)):
 Calls Tryz.prog 119 #[(.agg #[.slice A p.length c,.slice B t.length d])] w fun e w'=>∃g k,e= .returned (.slice (some ⟨g,0,none⟩) (lvs p).length k)∧w.heap.size≤g∧g<w'.heap.size∧Rw w' g (lvs p)∧Below w.heap.size w w':=by
 obtain⟨l1,l2,l3,l4⟩:=chk_len h;have HL:=Lib.hid (fun W hW=>leaves_row p A c W (by omega) l1 (chk_ok h).2.1 hW);have HCK:=Lib.hid (fun W h1 h2=>check_any p t A B c d W (by omega) (by omega) h1 h2);rw[h]at HCK;have HS:=Lib.hid hs;have HT:=Lib.hid ht;clear hs ht h;go_enter Tryz.func119,Tryz.ntmps119;go_upto_region 1 with fail;have HX:=Lib.hid (Bx.made w (.slice A p.length c) (.slice B t.length d) 24);generalize w.alloc (.cells #[.slice A p.length c,.slice B t.length d] 24)=W0 at*;have c0:=HX.out.2.2.1;have c1:=HX.out.2.2.2;have SP:=Lib.hid (HX.out.sl HS.out);have ST:=Lib.hid (HX.out.sl HT.out);go_wp2_with fail;refine(HCK.out _ SP.out ST.out).mono ?_;rintro e W1 ⟨rfl,b1⟩;have HX1:=Lib.hid (HX.out.step b1);clear c0 c1 SP ST HX b1 HCK;have c0:=HX1.out.2.2.1;have c1:=HX1.out.2.2.2;have hsz:=HX1.out.1.size;go_wp2_with fail;refine(HL.out _ (HX1.out.sl HS.out)).mono ?_;rintro e W2 ⟨g,k,rfl,g1,g2,hr,b2⟩;have HB2:=Lib.hid (nx HX1.out.1 b2);have HR:=Lib.hid hr;clear hr b2;go_wp2_with fail;go_ret;exact⟨g,k,rfl,by omega,g2,HR.out,HB2.out⟩
def TbB (W:World)(gt:Nat)(A B:Value)(d st:Int)(vu vn vs vm:Value):Prop:=W.heap[gt]? =some (.cells #[A,B,.int .u32 d,.int .i32 st,.int .u32 0,vu,vn,vs,vm] 132 (0,0))
def slA (b:Nat)(l:List Int)(c:Nat):Value:= .slice (some ⟨b,0,none⟩) l.length c
abbrev nilV:Value:= .slice none 0 0
def PnAft (p t:List Int)(w:World)(e:Ending)(w':World):Prop:=
 ∃gt pb tb c d,e= .returned (.tuple #[.pointer (some ⟨gt,0,none⟩),.int .i64 0])∧TbB w' gt (slA pb p c) (slA tb t d) 0 0 nilV nilV nilV nilV∧Rw w' pb p∧Rw w' tb t∧(w.heap.size≤pb∧w.heap.size≤tb∧pb<gt∧tb<gt)∧Below w.heap.size w w'
set_option maxRecDepth 100000 in
theorem pnew_ok (p t:List Int)(A B:Option Addr)(c d:Nat)(w:World)(h:chk p t=0)(hs:Sl w w.heap.size A (p.flatMap decI))(ht:Sl w w.heap.size B (t.flatMap decI)):
 Calls Tryz.prog 39 #[(.agg #[.slice A p.length c,.slice B t.length d])] w (PnAft p t w):=by
 obtain⟨l1,l2,l3,l4⟩:=chk_len h;have HCK:=Lib.hid (fun W h1 h2=>check_any p t A B c d W (by omega) (by omega) h1 h2);have HCP:=Lib.hid (fun W hW=>clone_int p A c W l1 (by omega) hW);have HCT:=Lib.hid (fun W hW=>clone_int t B d W l3 (by omega) hW);rw[h]at HCK;have HS:=Lib.hid hs;have HT:=Lib.hid ht;clear hs ht h;go_enter Tryz.func39,Tryz.ntmps39;go_upto_region 1 with fail;have HX:=Lib.hid (Bx.made w (.slice A p.length c) (.slice B t.length d) 24);generalize w.alloc (.cells #[.slice A p.length c,.slice B t.length d] 24)=W0 at*;have c0:=HX.out.2.2.1;have c1:=HX.out.2.2.2;have SP:=Lib.hid (HX.out.sl HS.out);have ST:=Lib.hid (HX.out.sl HT.out);go_wp2_with fail;refine(HCK.out _ SP.out ST.out).mono ?_;rintro e W1 ⟨rfl,b1⟩;have HX1:=Lib.hid (HX.out.step b1);clear c0 c1 SP ST HX b1 HCK;have c0:=HX1.out.2.2.1;have c1:=HX1.out.2.2.2;go_upto_region 4 with fail;have SPd:Hid (Sl W1.drew W1.drew.heap.size A (p.flatMap decI)):=Lib.hid (HX1.out.sl HS.out);have STd:Hid (Sl W1.drew W1.drew.heap.size B (t.flatMap decI)):=Lib.hid (HX1.out.sl HT.out);have HXd:Hid (Bx w W1.drew (.slice A p.length c) (.slice B t.length d)):=Lib.hid ⟨Below.drew HX1.out.1,HX1.out.2⟩;have d0:W1.drew.cell? ⟨w.heap.size,0,none⟩=some (.slice A p.length c)∧W1.drew.cell? ⟨w.heap.size,1,none⟩=some (.slice B t.length d):=⟨c0,c1⟩;refine wp_region_held_drew (S:=fun V=>V.cell? ⟨w.heap.size,0,none⟩=some (.slice A p.length c)∧V.cell? ⟨w.heap.size,1,none⟩=some (.slice B t.length d)) (by kernel_rfl) d0 (fun hHeld=> ?_);clear c0 c1 d0 HX1;generalize W1.drew=X0 at*;have ho0:=HXd.out.1.size;refine take_to 0 (some 10) (v:= ?_) rfl rfl (by kernel_rfl) (by kernel_rfl) (by kernel_rfl) (fun _ _ _ h=>h) (Or.inl ⟨by rfl,?_⟩) (by first|trivial|assumption) ?_;rotate_left;focus(intro w hSw;(try dsimp only at hSw);go_simp;(try with_reducible rfl))
 simp only[Act.put,List.setIfInBounds_toArray,List.set_cons_zero,List.set_cons_succ];refine take_to 1 (some 11) (v:= ?_) rfl rfl (by kernel_rfl) (by kernel_rfl) (by kernel_rfl) (fun _ _ _ h=>h) (Or.inl ⟨by rfl,?_⟩) (by first|trivial|assumption) ?_;rotate_left;focus(intro w hSw;(try dsimp only at hSw);go_simp;(try with_reducible rfl))
 simp only[Act.put,List.setIfInBounds_toArray,List.set_cons_zero,List.set_cons_succ];refine take_to 3 (some 13) (v:= ?_) rfl rfl (by kernel_rfl) (by kernel_rfl) (by kernel_rfl) (fun _ _ _ h=>h) (Or.inl ⟨by rfl,?_⟩) (by first|trivial|assumption) ?_;rotate_left;focus(intro w hSw;(try dsimp only at hSw);go_simp;(try with_reducible rfl))
 simp only[Act.put,List.setIfInBounds_toArray,List.set_cons_zero,List.set_cons_succ];refine take_to 4 (some 14) (v:= ?_) rfl rfl (by kernel_rfl) (by kernel_rfl) (by kernel_rfl) (fun _ _ _ h=>h) (Or.inl ⟨by rfl,?_⟩) (by first|trivial|assumption) ?_;rotate_left;focus(intro w hSw;(try dsimp only at hSw);go_simp;(try with_reducible rfl))
 simp only[Act.put,List.setIfInBounds_toArray,List.set_cons_zero,List.set_cons_succ];refine wpAnyH_ready (rs:=[2]) (by kernel_rfl) (by simp) ?_;refine AllReadyH.cons rfl (fun K hK=> ?_) AllReadyH.nil;go_simp;refine(HCP.out _ SPd.out).mono ?_;rintro e W2 ⟨ga,ca,rfl,a1,a2,ra,b2⟩;have HX2:=Lib.hid (HXd.out.step b2);have SB2:=Lib.hid (STd.out.step b2);have RA2:=Lib.hid ra;have ho2:=HX2.out.1.size;clear ra b2;go_simp;refine hK.out _ _ HX2.out.2.2 (fun hHeld=> ?_);refine wpAnyH_ready (rs:=[5]) (by kernel_rfl) (by simp) ?_;refine AllReadyH.cons rfl (fun K hK=> ?_) AllReadyH.nil;go_simp;refine(HCT.out _ SB2.out).mono ?_;rintro e W3 ⟨gb,cb,rfl,k1,k2,rb,b3⟩;have HX3:=Lib.hid (HX2.out.step b3);have RA3:=Lib.hid (RA2.out.mod (S:=[]) (Mod.of_below b3) a2 (by simp));have RB3:=Lib.hid rb;have ho3:=HX3.out.1.size;have hs3:=b3.size;clear rb b3;go_simp;refine hK.out _ _ HX3.out.2.2 (fun hHeld=> ?_);refine take_to 6 (some 16) (v:= ?_) rfl rfl (by kernel_rfl) (by kernel_rfl) (by kernel_rfl) (fun _ _ _ h=>h) (Or.inl ⟨by rfl,?_⟩) (by first|trivial|assumption) ?_;rotate_left;focus(intro w hSw;(try dsimp only at hSw);go_simp;(try with_reducible rfl))
 simp only[Act.put,List.setIfInBounds_toArray,List.set_cons_zero,List.set_cons_succ];refine take_to 7 (some 17) (v:= ?_) rfl rfl (by kernel_rfl) (by kernel_rfl) (by kernel_rfl) (fun _ _ _ h=>h) (Or.inl ⟨by rfl,?_⟩) (by first|trivial|assumption) ?_;rotate_left;focus(intro w hSw;(try dsimp only at hSw);go_simp;(try with_reducible rfl))
 simp only[Act.put,List.setIfInBounds_toArray,List.set_cons_zero,List.set_cons_succ];refine wpAnyH_ready (rs:=[8]) (by kernel_rfl) (by simp) ?_;refine AllReadyH.cons rfl (fun K hK=> ?_) AllReadyH.nil;go_simp;refine hK.out _ _ (HX3.out.step (below_new W3 _)).2.2 (fun hHeld=> ?_);refine take_to 9 (some 2) (v:= ?_) rfl rfl (by kernel_rfl) (by kernel_rfl) (by kernel_rfl) (fun _ _ _ h=>h) (Or.inl ⟨by rfl,?_⟩) (by first|trivial|assumption) ?_;rotate_left;focus(intro w hSw;(try dsimp only at hSw);go_simp;(try with_reducible rfl))
 simp only[Act.put,List.setIfInBounds_toArray,List.set_cons_zero,List.set_cons_succ];refine take_to 10 (some 3) (v:= ?_) rfl rfl (by kernel_rfl) (by kernel_rfl) (by kernel_rfl) (fun _ _ _ h=>h) (Or.inl ⟨by rfl,?_⟩) (by first|trivial|assumption) ?_;rotate_left;focus(intro w hSw;(try dsimp only at hSw);go_simp;(try with_reducible rfl))
 simp only[Act.put,List.setIfInBounds_toArray,List.set_cons_zero,List.set_cons_succ];refine wpAnyH_done (by kernel_rfl) ?_ _;go_wp2_with fail;go_ret2;exact⟨_,ga,gb,ca,cb,rfl,blk_new _ _,RA3.out.mod (S:=[]) (Mod.of_below (below_new _ _)) (by omega) (by simp),RB3.out.mod (S:=[]) (Mod.of_below (below_new _ _)) (by omega) (by simp),⟨by omega,by omega,by omega,by omega⟩,nx HX3.out.1 (below_new _ _)⟩
end Go.Proofs.YtfmiioddhpkdkaaGreat.Pa
