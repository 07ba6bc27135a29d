/- Merged texts: Tq3, SpQ, Sp1, Sp2, Sp3, Sp4, Sp5, Sp6, Sp8, Sp9, Sp10, Sp11, Sp12. -/
import Derived.Test.YtfmiioddhpkdkaaGreatWh29
import Derived.Deep.Cut
import Derived.Deep.CutBlock
import Derived.Laws.ResultCell
import Derived.RegionTactic
import Derived.BigRegion
import Derived.Maps.OwnSet
set_option linter.unusedVariables false
set_option linter.unusedSimpArgs false
namespace Go.Proofs.YtfmiioddhpkdkaaGreat.Tq
open Go.RowKit Go.Proofs.YtfmiioddhpkdkaaGreat.Ara Go.Proofs.YtfmiioddhpkdkaaGreat.Tp Go.Proofs.YtfmiioddhpkdkaaGreat.Lok Go.Proofs.YtfmiioddhpkdkaaGreat.Wo Go.Proofs.YtfmiioddhpkdkaaGreat.Co Go.Proofs.YtfmiioddhpkdkaaGreat.Cm Go.Proofs.YtfmiioddhpkdkaaGreat.Wf
theorem frame75 {a:Act}(h:a.tmps.size=75)(hd:a.defers=[]):∃u:Nat→Value,a={tmps:= #[u 0,u 1,u 2,u 3,u 4,u 5,u 6,u 7,u 8,u 9,u 10,u 11,u 12,u 13,u 14,u 15,u 16,u 17,u 18,u 19,u 20,u 21,u 22,u 23,u 24,u 25,u 26,u 27,u 28,u 29,u 30,u 31,u 32,u 33,u 34,u 35,u 36,u 37,u 38,u 39,u 40,u 41,u 42,u 43,u 44,u 45,u 46,u 47,u 48,u 49,u 50,u 51,u 52,u 53,u 54,u 55,u 56,u 57,u 58,u 59,u 60,u 61,u 62,u 63,u 64,u 65,u 66,u 67,u 68,u 69,u 70,u 71,u 72,u 73,u 74],defers:=[]}∧∀n,a.tmps.getD n undef=u n:=by
 refine⟨fun n=>a.tmps.getD n undef,?_,fun _=>rfl⟩;have h1:=arr_lit a.tmps h;cases a with
 |mk t d=>
  simp only at hd h1;subst hd;congr 1
def dPk (q:Int×Int):List Value:=[.int .i64 q.1,.int .i64 q.2]
theorem row_cell {W:World}{g:Nat}{T:TypeId}{α:Type}{dec:α→List Value}{k:Nat}(hdk:∀a,(dec a).length=k){l:List α}(h:W.heap[g]? =some (.cells (l.flatMap dec).toArray T (0,0))){i j:Nat}(hi:i<l.length)(hj:j<k):W.cell? ⟨g,i*k+j,none⟩=(dec l[i])[j]? :=by
 have h3:=flat_get hdk l i j hj l[i] (List.getElem?_eq_getElem hi)
 have hl:i*k+j<(l.flatMap dec).length:=by
  rw[flat_len hdk];have:i*k+k≤l.length*k:=by rw[←Nat.succ_mul];exact Nat.mul_le_mul_right k hi
  omega
 rw[blk_cell h (i*k+j) (by simpa using hl),←h3];simp[hl]
abbrev awAt (gw ga gt gl:Nat)(c:Cd)(L k:Nat)(W:World)(x:CS):Prop:=WoA gw ga gt gl (ldC pmW) (fun k W x=>CA gl 6 c pmW (nwW.NN+1) L k W x) (colS c.col L) L k W x
def AwJ (gw ga gt gl:Nat)(c:Cd)(L gq gp:Nat)(w:World)(a:Act)(W:World):Prop:=
 a.tmps.size=75∧a.defers=[]∧a.tmps.getD 1 undef= .pointer (some ⟨gw,0,none⟩)∧a.tmps.getD 3 undef= .pointer (some ⟨gq,0,none⟩)∧a.tmps.getD 5 undef= .slice (some ⟨gp,0,none⟩) 23 23∧∃i:Nat,a.tmps.getD 4 undef= .int .i64 (awC i:Int)∧a.tmps.getD 6 undef= .int .i64 (i:Int)∧i≤23∧awAt gw ga gt gl c L i W (awk i)∧W.heap[gq]? =some (.cells (wantW.flatMap decI).toArray 70 (0,0))∧W.heap[gp]? =some (.cells (pkW.flatMap dPk).toArray 47 (0,0))∧Below w.heap.size w W
set_option maxRecDepth 100000 in
set_option maxHeartbeats 8000000 in
theorem awake_any (w:World):Calls Tryz.prog 8 #[] w fun e w'=>e= .returned (.bool true)∧Below w.heap.size w w':=by
 go_enter Tryz.func8,Tryz.ntmps8;go_wp2_with fail;refine(two_any w).mono ?_;rintro e W1 ⟨A,B,rfl,s1,s2,hb1⟩;have HB1:=Lib.hid hb1;have HN:=Lib.hid (wnew_co w.heap.size twoP twoT A B 3 4 W1 hb1.size hckW s1 s2 2 4 1 1 (by decide) (by decide) (by decide) (by decide) (by decide));clear s1 s2 hb1;go_wp2_with fail;refine HN.out.mono ?_;unfold NewW;rintro e W2 ⟨gw,ga,gt,gl,V2,rfl,e2,e3,e4,e5,e6,hb2⟩;obtain⟨cd,hc1,hc2,hc3⟩:=woa_co (q:=nwW) okW (by decide) brW e2 e3 e4 e5 e6;have HG:=Lib.hid (show LI gl (ldC pmW) (fun k W x=>CA gl 6 cd pmW (nwW.NN+1) W2.heap.size k W x) (fun b=>b=false) (colS cd.col W2.heap.size) W2.heap.size from hc2);have HK:=Lib.hid (show awAt gw ga gt gl cd W2.heap.size 0 W2 (awk 0) from hc3);have HB2:=Lib.hid (HB1.out.trans (hb2.mono HB1.out.size));have HS:=Lib.hid hc1;clear e2 e3 e4 e5 e6 hb2 hc1 hc2 hc3 HN HB1;go_wp2_with fail;have hz1:(W2.alloc (.cells (wantW.flatMap decI).toArray 70)).heap.size=W2.heap.size+1:=by simp
 have hbb:Below W2.heap.size W2 ((W2.alloc (.cells (wantW.flatMap decI).toArray 70)).alloc (.cells (pkW.flatMap dPk).toArray 47)):=(below_new _ _).alloc (by simp) _;have hq0:((W2.alloc (.cells (wantW.flatMap decI).toArray 70)).alloc (.cells (pkW.flatMap dPk).toArray 47)).heap[W2.heap.size]? =some (.cells (wantW.flatMap decI).toArray 70 (0,0)):=(heap_alloc_old _ _ (by simp)).trans (blk_new _ _);have hp0:=blk_new (W2.alloc (.cells (wantW.flatMap decI).toArray 70)) (.cells (pkW.flatMap dPk).toArray 47);rw[hz1]at hp0;have HI:=Lib.hid (And.intro (HK.out.same HG.out hbb) (And.intro hq0 (And.intro hp0 (HB2.out.trans (hbb.mono HB2.out.size)))));have HL:=Lib.hid HB2.out.size;clear hbb hq0 hp0 hz1 HK HB2;generalize hL:W2.heap.size=L at*;refine wp_loop (AwJ gw ga gt gl cd L L (L+1) w) (fun a' _=>23-(intOf (a'.tmps.getD 6 undef)).toNat) ?_ ?_
 ·exact⟨rfl,rfl,rfl,rfl,rfl,0,rfl,rfl,Nat.zero_le _,HI.out.1,HI.out.2.1,HI.out.2.2.1,HI.out.2.2.2⟩
 ·clear HI hL
  rintro a' W ⟨hsz,hdf,s1,s3,s5,i,s4,s6,hi,hK,hq,hp,hB⟩;obtain⟨u,rfl,hu⟩:=frame75 hsz hdf;rw[hu]at s1 s3 s5 s4 s6;simp only[s1,s3,s5,s4,s6];clear hsz hdf s1 s3 s5 s4 s6 hu;have HB:=Lib.hid hB;have HQ:=Lib.hid hq;have HP:=Lib.hid hp;have HK:=Lib.hid hK;have hlp:pkW.length=23:=rfl;clear hB hq hp hK;by_cases hlt:i<23
  ·have c0:=row_cell (dec:=dPk) (k:=2) (fun _=>rfl) HP.out (i:=i) (j:=0) (by omega) (by omega)
   have c1:=row_cell (dec:=dPk) (k:=2) (fun _=>rfl) HP.out (i:=i) (j:=1) (by omega) (by omega);simp only[dPk,List.getElem?_cons_zero,List.getElem?_cons_succ,Nat.add_zero]at c0 c1;have hgd:pkW.getD i (0,0)=pkW[i]:=by rw[List.getD_eq_getElem?_getD,List.getElem?_eq_getElem (show i<pkW.length by omega)];rfl
   have hE:awE i=(wact (ldC pmW) (awk i) pkW[i].1 pkW[i].2).1:=by rw[←hgd];rfl
   have hX:awk (i+1)=(wact (ldC pmW) (awk i) pkW[i].1 pkW[i].2).2:=by rw[←hgd];rfl
   have hC:awC (i+1)=if(awE i).1=0 then awC i else awC i+1:=rfl
   have hat:=aw_at hlt;have i1:(i:Int)<23:=by omega
   have HD:=Lib.hid (do_wo HG.out HK.out pkW[i].1 pkW[i].2 (by omega) (fun _=>rfl) (fun _ h=>by cases h));rw[hE]at hC hat;clear hgd hE;generalize pkW[i]=pq at*;obtain⟨pt,pw⟩:=pq;simp only at c0 c1 hX hC hat HD;generalize hax:awk (i+1)=ax at*;have HAX:=Lib.hid hax;clear hax;generalize wact (ldC pmW) (awk i) pt pw=r at*;obtain⟨⟨ek,et,er,ec⟩,x2⟩:=r;simp only at hX hC hat;subst hX;generalize hcn:awC (i+1)=cn at*;have HCN:=Lib.hid hC;have HDN:=Lib.hid hcn;clear hcn;have HAT:=Lib.hid hat;clear hC hat;unfold WAft at HD;simp only[wev]at HD;go_wp2_with fail;refine HD.out.mono ?_;rintro e W4 ⟨rfl,hk4,hm4⟩;have hbe:=below_new W4 (.cells #[.int .i64 ek,.int .i64 et,.bool er,.int .i64 ec] 44);have hlo:∀q∈colS cd.col L,q<L:=HG.out.lt;have HK5:=Lib.hid (hk4.same HG.out hbe);have HQ5:=Lib.hid ((Mod.of_below (S:=[]) hbe).blk (hm4.blk HQ.out (fun h=>by have:=hlo _ h;omega)) (by simp));have HP5:=Lib.hid ((Mod.of_below (S:=[]) hbe).blk (hm4.blk HP.out (fun h=>by have:=hlo _ h;omega)) (by simp));have HB5:=Lib.hid (show Below w.heap.size w (W4.alloc (.cells #[.int .i64 ek,.int .i64 et,.bool er,.int .i64 ec] 44)) from(HB.out.trans (hm4.below HB.out.size (fun q hq=>HS.out q hq))).trans (hbe.mono (Nat.le_trans HB.out.size hm4.size)));clear hk4 hm4 hbe hlo HK HQ HP HB HD c0 c1;by_cases h0:ek=0
   ·have hcc:=HCN.out
    rw[if_pos h0]at hcc;have HCC:=Lib.hid hcc;clear hcc HCN HAT;subst h0;go_wp2_with fail;go_roundw
    case rel=>exact⟨rfl,rfl,rfl,rfl,rfl,i+1,by rw[HDN.out,HCC.out];rfl,by go_num,by omega,by rw[HAX.out];exact HK5.out,HQ5.out,HP5.out,HB5.out⟩
    case measure=>simp[intOf];omega
   ·have hcc:=HCN.out
    rw[if_neg h0]at hcc;obtain⟨ha6,hek⟩:=HAT.out.resolve_left h0;have HCC:=Lib.hid hcc;have e0:=ibeq_no h0;have cq:=row_cell (dec:=decI) (k:=1) (fun _=>rfl) HQ5.out (i:=awC i) (j:=0) ha6 (by omega);have hwg:wantW.getD (awC i) 0=wantW[awC i]'ha6:=by rw[List.getD_eq_getElem?_getD,List.getElem?_eq_getElem (show awC i<wantW.length from ha6)];rfl
    rw[hwg]at hek;simp only[decI,List.getElem?_cons_zero,Nat.add_zero,Nat.mul_one]at cq;rw[←hek]at cq;clear hcc HCN HAT hwg hek h0;generalize awC i=ai at*;have j1:(ai:Int)<6:=by omega
    have j2:¬6≤(ai:Int):=by omega
    have j3:decide (6≤(ai:Int))=false:=decide_eq_false j2;have j4:=ibeq (rfl:ek=ek);have ev0:=blk_cell (blk_new W4 (.cells #[.int .i64 ek,.int .i64 et,.bool er,.int .i64 ec] 44)) 0 (by simp);simp only[List.getElem_toArray,List.getElem_cons_zero]at ev0;go_upto_region 11 with fail;go_quiet(fail);go_wp2_with fail;go_roundw
    case rel=>exact⟨rfl,rfl,rfl,rfl,rfl,i+1,by rw[HDN.out,HCC.out];go_num,by go_num,by omega,by rw[HAX.out];exact HK5.out.drewN HG.out nq,HQ5.out,HP5.out,below_drewN HB5.out nq⟩
    case measure=>simp[intOf];omega
  ·obtain rfl:i=23:=by omega
   have i1:¬(23:Int)<23:=by omega
   have hend:=aw_end;rw[hend];go_wp2_with fail;go_ret;exact⟨rfl,HB.out⟩
end Go.Proofs.YtfmiioddhpkdkaaGreat.Tq
namespace Go.Proofs.YtfmiioddhpkdkaaGreat.Sp
end Go.Proofs.YtfmiioddhpkdkaaGreat.Sp
namespace Go.Proofs.YtfmiioddhpkdkaaGreat.Sp
open Go.RowKit
def stepD (kind:Int):Int:=if kind=4 then 8 else 4
end Go.Proofs.YtfmiioddhpkdkaaGreat.Sp
namespace Go.Proofs.YtfmiioddhpkdkaaGreat.Sp
open Go.RowKit
theorem step_in (kind:Int):4≤stepD kind∧stepD kind≤8:=by unfold stepD;split<;>omega
end Go.Proofs.YtfmiioddhpkdkaaGreat.Sp
namespace Go.Proofs.YtfmiioddhpkdkaaGreat.Sp
open Go.RowKit
end Go.Proofs.YtfmiioddhpkdkaaGreat.Sp
namespace Go.Proofs.YtfmiioddhpkdkaaGreat.Sp
open Go.RowKit
def dE (e:E):List Value:=[.int .i64 e.kind,.int .i64 e.th,.bool e.rd,.int .i64 e.ct]
theorem sl_ev {w:World}{Bd:Nat}{A:Option Addr}{l:List E}(h:Sl w Bd A (l.flatMap dE))(hk:0<l.length):∃b off,A=some ⟨b,off,none⟩∧b<Bd∧∀j,j<l.length→w.cell? ⟨b,off+j*4,none⟩=some (.int .i64 (l.getD j e0).kind)∧w.cell? ⟨b,off+j*4+1,none⟩=some (.int .i64 (l.getD j e0).th)∧w.cell? ⟨b,off+j*4+2,none⟩=some (.bool (l.getD j e0).rd)∧w.cell? ⟨b,off+j*4+3,none⟩=some (.int .i64 (l.getD j e0).ct):=by
 obtain⟨b,off,rfl,hb,hc⟩:=Sl_at (dec:=dE) (k:=4) (fun _=>rfl) (by omega) h hk;refine⟨b,off,rfl,hb,fun j hj=> ?_⟩;have h0:=hc j hj 0 (by omega);have h1:=hc j hj 1 (by omega);have h2:=hc j hj 2 (by omega);have h3:=hc j hj 3 (by omega);simp only[dE,List.getElem?_cons_zero,List.getElem?_cons_succ,Nat.add_zero,←Nat.add_assoc]at h0 h1 h2 h3;have e:l.getD j e0=l[j]:=by rw[List.getD_eq_getElem?_getD,List.getElem?_eq_getElem hj];rfl
 rw[e];exact⟨h0,h1,h2,h3⟩
end Go.Proofs.YtfmiioddhpkdkaaGreat.Sp
namespace Go.Proofs.YtfmiioddhpkdkaaGreat.Sp
open Go.RowKit
def vSt (s:St):Value:= .agg #[.int .i64 s.th,.bool s.rd,.int .i64 s.ask,.int .i64 s.en,.int .i64 s.ex,.int .i64 s.re,.int .i64 s.ct]
end Go.Proofs.YtfmiioddhpkdkaaGreat.Sp
namespace Go.Proofs.YtfmiioddhpkdkaaGreat.Sp
open Go.RowKit
def dSt (s:St):List Value:=[.int .i64 s.th,.bool s.rd,.int .i64 s.ask,.int .i64 s.en,.int .i64 s.ex,.int .i64 s.re,.int .i64 s.ct]
def s0:St:=⟨0,false,0,0,0,0,0⟩
theorem infoSt:(Tryz.prog.info? 40).map (fun i=>(i.zero,i.size,i.bytes))=some (some (.agg #[.int .i64 0,.bool false,.int .i64 0,.int .i64 0,.int .i64 0,.int .i64 0,.int .i64 0]),7,56):=by kernel_rfl
end Go.Proofs.YtfmiioddhpkdkaaGreat.Sp
namespace Go.Proofs.YtfmiioddhpkdkaaGreat.Sp
open Go.RowKit
def busy (k:Nat)(t:Int)(s:St):Bool:=decide (s.th=t)&&(decide (s.re<0)||decide ((k:Int)<s.re))
end Go.Proofs.YtfmiioddhpkdkaaGreat.Sp
namespace Go.Proofs.YtfmiioddhpkdkaaGreat.Sp
open Go.RowKit
end Go.Proofs.YtfmiioddhpkdkaaGreat.Sp
namespace Go.Proofs.YtfmiioddhpkdkaaGreat.Sp
open Go.RowKit
theorem getD_mem {l:List St}{j:Nat}(h:j<l.length):l.getD j s0∈l:=by
 rw[List.getD_eq_getElem?_getD,List.getElem?_eq_getElem h];exact List.getElem_mem h
end Go.Proofs.YtfmiioddhpkdkaaGreat.Sp
namespace Go.Proofs.YtfmiioddhpkdkaaGreat.Sp
open Go.RowKit
theorem modHere {g i:Nat}{a w:World}(h:Mod [g] a w)(u:Value):Mod [g] a (w.setCell ⟨g,i,none⟩ u):=h.setCell (List.mem_singleton.2 rfl) u
theorem take_set (i n:Nat)(u:Value)(l:List Value):(l.set i u).take n=(l.take n).set i u:=by
 apply List.ext_getElem?;intro j;rw[List.getElem?_take,List.getElem?_set,List.getElem?_set,List.getElem?_take,List.length_take];by_cases h1:j<n
 ·rw[if_pos h1,if_pos h1]
  by_cases h2:i=j
  ·subst h2
   rw[if_pos rfl,if_pos rfl];by_cases h3:i<l.length
   ·rw[if_pos h3,if_pos (by omega)]
   ·rw[if_neg h3,if_neg (by omega)]
  ·rw[if_neg h2,if_neg h2]
 ·rw[if_neg h1,if_neg h1]
  split
  ·rw[if_neg (by omega)]
  ·rfl
theorem getD_set {out:List St}{s:St}{i j:Nat}(h:j<out.length):(out.set j s).getD i s0=if i=j then s else out.getD i s0:=by
 rw[List.getD_eq_getElem?_getD,List.getElem?_set];by_cases e:j=i
 ·subst e
  rw[if_pos rfl,if_pos h,if_pos rfl];rfl
 ·rw[if_neg e,if_neg (fun x=>e x.symm),List.getD_eq_getElem?_getD]
theorem own_put {w:World}{base g n cap size i:Nat}{e:TypeId}{xs:List Value}(h:w.ownsRow base e size (.slice (some ⟨g,0,none⟩) n cap) n xs)(u:Value):
 (w.setCell ⟨g,i,none⟩ u).ownsRow base e size (.slice (some ⟨g,0,none⟩) n cap) n (xs.set i u):=by
 refine⟨by rw[List.length_set];exact h.1,?_⟩;rcases h.2 with⟨hv,_⟩|⟨g',cap',cur,hv,hb,hg,h1,h2,h3,h4⟩
 ·cases hv
 ·cases hv
  exact .inr ⟨g,cap,cur.setIfInBounds i u,rfl,hb,blk_set hg i u,h1,h2,by simp[h3],by rw[←h4];simp[take_set]⟩
theorem flat_set {α:Type}{dec:α→List Value}{k:Nat}(hdk:∀a,(dec a).length=k){a:α}{i:Nat}{u:Value}(hi:i<k):∀(l:List α) (j:Nat) (hj:j<l.length),dec a=(dec l[j]).set i u→(l.set j a).flatMap dec=(l.flatMap dec).set (j*k+i) u
 |[],j,hj,_=>absurd hj (Nat.not_lt_zero _)
 |y::l,0,_,he=>by
  simp only[List.set_cons_zero,List.flatMap_cons,Nat.zero_mul,Nat.zero_add,List.getElem_cons_zero]at he⊢;rw[he,List.set_append_left _ _ (by rw[hdk];exact hi)]
 |y::l,j+1,hj,he=>by
  simp only[List.set_cons_succ,List.flatMap_cons,List.getElem_cons_succ]at he⊢;rw[flat_set hdk hi l j (by simpa using hj) he,List.set_append_right _ _ (by rw[hdk,Nat.add_mul];omega),hdk];congr 2;rw[Nat.add_mul];omega
def noteB (s:St)(e:E):Bool:=(decide (e.kind=2)&&decide (s.en<0))||(decide (e.kind=3)&&decide (0≤s.en)&&decide (s.ex<0))||(decide (e.kind=4)&&decide (0≤s.ex))
theorem set_self (out:List St)(j:Nat):out.set j (out.getD j s0)=out:=by
 apply List.ext_getElem?;intro i;rw[List.getElem?_set];split
 ·rename_i h
  subst h;split
  ·rename_i h2
   rw[List.getD_eq_getElem?_getD,List.getElem?_eq_getElem h2];rfl
  ·rename_i h2
   rw[List.getElem?_eq_none (by omega)]
 ·rfl
def SRow (base g cap:Nat)(out:List St)(w:World):Prop:=w.ownsRow base 40 7 (.slice (some ⟨g,0,none⟩) out.length cap) out.length (out.flatMap dSt)
theorem SRow.put {base g cap:Nat}{out:List St}{w:World}(h:SRow base g cap out w){j i:Nat}(hj:j<out.length)(hi:i<7){s:St}{u:Value}(he:dSt s=(dSt (out.getD j s0)).set i u):SRow base g cap (out.set j s) (w.setCell ⟨g,j*7+i,none⟩ u):=by
 unfold SRow;rw[flat_set (dec:=dSt) (k:=7) (fun _=>rfl) hi out j hj (by rw[he,List.getD_eq_getElem?_getD,List.getElem?_eq_getElem hj];rfl),List.length_set];exact own_put h u
theorem SRow.alloc {base g cap:Nat}{out:List St}{w:World}(h:SRow base g cap out w)(o:Obj):SRow base g cap out (w.alloc o):=own_below h (Nat.le_refl _) (below_new w o)
theorem SRow.drew {base g cap:Nat}{out:List St}{w:World}(h:SRow base g cap out w):SRow base g cap out w.drew:=h
theorem SRow.cells {base g cap:Nat}{out:List St}{w:World}(h:SRow base g cap out w){j:Nat}(hj:j<out.length):g<w.heap.size∧w.cell? ⟨g,j*7+3,none⟩=some (.int .i64 (out.getD j s0).en)∧w.cell? ⟨g,j*7+4,none⟩=some (.int .i64 (out.getD j s0).ex)∧w.cell? ⟨g,j*7+5,none⟩=some (.int .i64 (out.getD j s0).re)∧w.cell? ⟨g,j*7+6,none⟩=some (.int .i64 (out.getD j s0).ct)∧∀i,w.frozen? ⟨g,i,none⟩=false:=by
 have h7:out.flatMap dSt≠ []:=by
  intro e;have:=flat_len (dec:=dSt) (k:=7) (fun _=>rfl) out;rw[e]at this;simp at this;omega
 rcases h.2 with⟨hv,_⟩|⟨g',cap',cur,hv,hb,hg,h1,h2,h3,h4⟩
 ·cases hv
 ·cases hv
  have hsl:Sl w w.heap.size (some ⟨g,0,none⟩) (out.flatMap dSt):=by
   obtain⟨A,c,hA,_,_,hc⟩:=own_slice h;cases hA
   exact hc
  obtain⟨b,off,hA,hbb,hc⟩:=Sl_at (dec:=dSt) (k:=7) (fun _=>rfl) (by omega) hsl (by omega);cases hA
  have e:out.getD j s0=out[j]:=by rw[List.getD_eq_getElem?_getD,List.getElem?_eq_getElem hj];rfl
  have q3:=hc j hj 3 (by omega);have q4:=hc j hj 4 (by omega);have q5:=hc j hj 5 (by omega);have q6:=hc j hj 6 (by omega);simp only[dSt,List.getElem?_cons_zero,List.getElem?_cons_succ,Nat.zero_add]at q3 q4 q5 q6;rw[e];exact⟨hbb,q3,q4,q5,q6,fun i=>blk_free hg i⟩
theorem noteP_ne {k:Nat}{s:St}{e:E}(h:noteB s e=false):noteP k s e=s:=by
 unfold noteB at h;simp only[Bool.or_eq_false_iff,Bool.and_eq_false_iff,decide_eq_false_iff_not]at h;unfold noteP;rw[if_neg (by omega),if_neg (by omega),if_neg (by omega)]
theorem noteB_iff (s:St)(e:E):noteB s e=true↔(e.kind=2∧s.en<0)∨(e.kind=3∧0≤s.en∧s.ex<0)∨(e.kind=4∧0≤s.ex):=by
 unfold noteB;simp only[Bool.or_eq_true,Bool.and_eq_true,decide_eq_true_eq,or_assoc,and_assoc]
theorem noteB_no {s:St}{e:E}(h:¬((e.kind=2∧s.en<0)∨(e.kind=3∧0≤s.en∧s.ex<0)∨(e.kind=4∧0≤s.ex))):noteB s e=false:=by
 cases hb:noteB s e with
 |false=>rfl
 |true=>exact absurd ((noteB_iff s e).1 hb) h
def NoteAft (base g cap k:Nat)(out':List St)(b:Bool)(W:World)(x:Ending)(w':World):Prop:=
 x= .returned (.bool b)∧SRow base g cap out' w'∧Mod [g] W w'
set_option maxRecDepth 100000 in
set_option maxHeartbeats 4000000 in
theorem note_any (base g cap k j:Nat)(out:List St)(e:E)(W:World)(hr:SRow base g cap out W)(hj:j<out.length):
 Calls Tryz.prog 23 #[.pointer (some ⟨g,j*7,none⟩),.int .i64 (k:Int),.agg #[.int .i64 e.kind,.int .i64 e.th,.bool e.rd,.int .i64 e.ct]] W (NoteAft base g cap k (out.set j (noteP k (out.getD j s0) e)) (noteB (out.getD j s0) e) W):=by
 obtain⟨hg,c3,c4,c5,c6,hf⟩:=hr.cells hj;have f3:=hf (j*7+3);have f4:=hf (j*7+4);have f5:=hf (j*7+5);have f6:=hf (j*7+6);have HR:=Lib.hid hr;clear hr hf;by_cases h1:e.kind=2
 ·have K2:=Lib.hid (ibeq h1)
  have K3:Hid ((e.kind==3)=false):=Lib.hid (ibeq_no (by omega));have K4:Hid ((e.kind==4)=false):=Lib.hid (ibeq_no (by omega));by_cases h2:(out.getD j s0).en<0
  ·have HB:=Lib.hid ((noteB_iff (out.getD j s0) e).2 (by omega))
   have HD:=Lib.hid (show∀w,SRow base g cap out w→SRow base g cap (out.set j (noteP k (out.getD j s0) e)) ((w.setCell ⟨g,j*7+3,none⟩ (.int .i64 (k:Int))).setCell ⟨g,j*7+6,none⟩ (.int .i64 e.ct)) from fun w hw=>by
    have a1:=hw.put (s:={out.getD j s0 with en:=k}) (i:=3) (u:= .int .i64 (k:Int)) hj (by omega) rfl;have a2:=a1.put (j:=j) (s:={out.getD j s0 with en:=k,ct:=e.ct}) (i:=6) (u:= .int .i64 e.ct) (by rw[List.length_set];exact hj) (by omega) (by rw[getD_set hj,if_pos rfl];rfl);rw[List.set_set]at a2;have:noteP k (out.getD j s0) e={out.getD j s0 with en:=k,ct:=e.ct}:=by unfold noteP;rw[if_pos ⟨h1,h2⟩]
    rw[this];exact a2)
   rw[HB.out];generalize out.set j (noteP k (out.getD j s0) e)=out' at*;generalize out.getD j s0=s at*;have q2:=K2.out;have q3:=K3.out;have q4:=K4.out;clear K2 K3 K4;clear h1;go_enter Tryz.func23,Tryz.ntmps23;go_wp2_with fail;go_region
   all_goals go_wp2_with fail
   all_goals go_ret
   all_goals exact⟨rfl,(HD.out _ HR.out).alloc _,((modHere (modHere (Mod.refl _ _) _) _).alloc _).drew⟩
  ·have d2:=decide_eq_false h2
   have HB:=Lib.hid (noteB_no (s:=out.getD j s0) (e:=e) (by omega));have HD:=Lib.hid (show SRow base g cap (out.set j (noteP k (out.getD j s0) e)) W by rw[noteP_ne HB.out,set_self];exact HR.out);rw[HB.out];generalize out.set j (noteP k (out.getD j s0) e)=out' at*;generalize out.getD j s0=s at*;have q2:=K2.out;have q3:=K3.out;have q4:=K4.out;clear K2 K3 K4;go_enter Tryz.func23,Tryz.ntmps23;go_wp2_with fail;go_ret;exact⟨rfl,HD.out.alloc _,(Mod.refl _ _).alloc _⟩
 ·have K2:=Lib.hid (ibeq_no h1)
  by_cases h3:e.kind=3
  ·have K3:=Lib.hid (ibeq h3)
   have K4:Hid ((e.kind==4)=false):=Lib.hid (ibeq_no (by omega));by_cases h4:0≤(out.getD j s0).en
   ·by_cases h5:(out.getD j s0).ex<0
    ·have HB:=Lib.hid ((noteB_iff (out.getD j s0) e).2 (by omega))
     have HD:=Lib.hid (show∀w,SRow base g cap out w→SRow base g cap (out.set j (noteP k (out.getD j s0) e)) (w.setCell ⟨g,j*7+4,none⟩ (.int .i64 (k:Int))) from fun w hw=>by
      have a1:=hw.put (s:={out.getD j s0 with ex:=k}) (i:=4) (u:= .int .i64 (k:Int)) hj (by omega) rfl;have:noteP k (out.getD j s0) e={out.getD j s0 with ex:=k}:=(by unfold noteP;rw[if_neg (by omega),if_pos ⟨h3,h4,h5⟩]);rw[this];exact a1)
     rw[HB.out];generalize out.set j (noteP k (out.getD j s0) e)=out' at*;generalize out.getD j s0=s at*;have q2:=K2.out;have q3:=K3.out;have q4:=K4.out;clear K2 K3 K4;go_enter Tryz.func23,Tryz.ntmps23;go_wp2_with fail;go_ret;exact⟨rfl,(HD.out _ HR.out).alloc _,(modHere (Mod.refl _ _) _).alloc _⟩
    ·have d2:=decide_eq_false h5
     have HB:=Lib.hid (noteB_no (s:=out.getD j s0) (e:=e) (by omega));have HD:=Lib.hid (show SRow base g cap (out.set j (noteP k (out.getD j s0) e)) W by rw[noteP_ne HB.out,set_self];exact HR.out);rw[HB.out];generalize out.set j (noteP k (out.getD j s0) e)=out' at*;generalize out.getD j s0=s at*;have q2:=K2.out;have q3:=K3.out;have q4:=K4.out;clear K2 K3 K4;go_enter Tryz.func23,Tryz.ntmps23;go_wp2_with fail;go_ret;exact⟨rfl,HD.out.alloc _,(Mod.refl _ _).alloc _⟩
   ·have d2:=decide_eq_false h4
    have HB:=Lib.hid (noteB_no (s:=out.getD j s0) (e:=e) (by omega));have HD:=Lib.hid (show SRow base g cap (out.set j (noteP k (out.getD j s0) e)) W by rw[noteP_ne HB.out,set_self];exact HR.out);rw[HB.out];generalize out.set j (noteP k (out.getD j s0) e)=out' at*;generalize out.getD j s0=s at*;have q2:=K2.out;have q3:=K3.out;have q4:=K4.out;clear K2 K3 K4;go_enter Tryz.func23,Tryz.ntmps23;go_wp2_with fail;go_ret;exact⟨rfl,HD.out.alloc _,(Mod.refl _ _).alloc _⟩
  ·have K3:=Lib.hid (ibeq_no h3)
   by_cases h6:e.kind=4
   ·have K4:=Lib.hid (ibeq h6)
    by_cases h5:0≤(out.getD j s0).ex
    ·have HB:=Lib.hid ((noteB_iff (out.getD j s0) e).2 (by omega))
     have HD:=Lib.hid (show∀w,SRow base g cap out w→SRow base g cap (out.set j (noteP k (out.getD j s0) e)) (w.setCell ⟨g,j*7+5,none⟩ (.int .i64 (k:Int))) from fun w hw=>by
      have a1:=hw.put (s:={out.getD j s0 with re:=k}) (i:=5) (u:= .int .i64 (k:Int)) hj (by omega) rfl;have:noteP k (out.getD j s0) e={out.getD j s0 with re:=k}:=(by unfold noteP;rw[if_neg (by omega),if_neg (by omega),if_pos ⟨h6,h5⟩]);rw[this];exact a1)
     rw[HB.out];generalize out.set j (noteP k (out.getD j s0) e)=out' at*;generalize out.getD j s0=s at*;have q2:=K2.out;have q3:=K3.out;have q4:=K4.out;clear K2 K3 K4;go_enter Tryz.func23,Tryz.ntmps23;go_wp2_with fail;go_ret;exact⟨rfl,(HD.out _ HR.out).alloc _,(modHere (Mod.refl _ _) _).alloc _⟩
    ·have d2:=decide_eq_false h5
     have HB:=Lib.hid (noteB_no (s:=out.getD j s0) (e:=e) (by omega));have HD:=Lib.hid (show SRow base g cap (out.set j (noteP k (out.getD j s0) e)) W by rw[noteP_ne HB.out,set_self];exact HR.out);rw[HB.out];generalize out.set j (noteP k (out.getD j s0) e)=out' at*;generalize out.getD j s0=s at*;have q2:=K2.out;have q3:=K3.out;have q4:=K4.out;clear K2 K3 K4;go_enter Tryz.func23,Tryz.ntmps23;go_wp2_with fail;go_ret;exact⟨rfl,HD.out.alloc _,(Mod.refl _ _).alloc _⟩
   ·have K4:=Lib.hid (ibeq_no h6)
    have HB:=Lib.hid (noteB_no (s:=out.getD j s0) (e:=e) (by omega));have HD:=Lib.hid (show SRow base g cap (out.set j (noteP k (out.getD j s0) e)) W by rw[noteP_ne HB.out,set_self];exact HR.out);rw[HB.out];generalize out.set j (noteP k (out.getD j s0) e)=out' at*;generalize out.getD j s0=s at*;have q2:=K2.out;have q3:=K3.out;have q4:=K4.out;clear K2 K3 K4;go_enter Tryz.func23,Tryz.ntmps23;go_wp2_with fail;go_ret;exact⟨rfl,HD.out.alloc _,(Mod.refl _ _).alloc _⟩
end Go.Proofs.YtfmiioddhpkdkaaGreat.Sp
namespace Go.Proofs.YtfmiioddhpkdkaaGreat.Sp
open Go.RowKit Go.Maps
abbrev kI (t:Int):Lit:= .int .i64 t
def MapR (D:DataW Unit)(out:List St):Prop:=
 IsMap D∧∀t,Maps.has D (kI t)=out.any (isO t)∧∀i,i<out.length→isO t (out.getD i s0)=true→∀z,D.atKey (kI t) z= .lit (.int .i64 (i:Int))
theorem any_iff (f:St→Bool)(out:List St):out.any f=true↔∃i,i<out.length∧f (out.getD i s0)=true:=by
 rw[List.any_eq_true];constructor
 ·rintro⟨s,hs,h⟩
  obtain⟨i,hi,rfl⟩:=List.getElem_of_mem hs;exact⟨i,hi,by rw[List.getD_eq_getElem?_getD,List.getElem?_eq_getElem hi];exact h⟩
 ·rintro⟨i,hi,h⟩
  exact⟨_,getD_mem hi,h⟩
theorem mapR_nil:MapR (.map []) []:=⟨isMap_empty,fun t=>⟨rfl,fun i hi=>absurd hi (Nat.not_lt_zero _)⟩⟩
theorem MapR.only {D:DataW Unit}{out:List St}(h:MapR D out){t:Int}{i j:Nat}(hi:i<out.length)(hj:j<out.length)(h1:isO t (out.getD i s0)=true)(h2:isO t (out.getD j s0)=true):i=j:=by
 have a:=(h.2 t).2 i hi h1 (.map []);have b:=(h.2 t).2 j hj h2 (.map []);rw[a]at b;have b':(i:Int)=(j:Int):=by simpa using b
 omega
theorem getD_app {out:List St}{s:St}{i:Nat}(h:i<out.length):(out++ [s]).getD i s0=out.getD i s0:=by
 rw[List.getD_eq_getElem?_getD,List.getD_eq_getElem?_getD,List.getElem?_append_left h]
theorem getD_app_end {out:List St}{s:St}:(out++ [s]).getD out.length s0=s:=by
 rw[List.getD_eq_getElem?_getD,List.getElem?_append_right (Nat.le_refl _)];simp
theorem kI_ne {a b:Int}(h:a≠b):kI a≠kI b:=by
 intro e;injection e with _ e;exact h e
theorem isK_kI (t:Int):WideAt.IsKeyLit (kI t):=by simp[WideAt.IsKeyLit]
theorem MapR.new {D:DataW Unit}{out:List St}(h:MapR D out){s:St}(hr:s.re<0)(ho:out.any (isO s.th)=false):MapR (D.put (kI s.th) (.lit (.int .i64 (out.length:Int)))) (out++ [s]):=by
 refine⟨h.1.put _ _,fun t=> ?_⟩;by_cases e:t=s.th
 ·subst e
  refine⟨?_,fun i hi h1 z=> ?_⟩
  ·rw[has_put_same h.1 (isK_kI _)]
   simp[isO,hr]
  ·rw[atKey_put_same h.1 (isK_kI _)]
   by_cases hl:i<out.length
   ·rw[getD_app hl]at h1
    have:=(any_iff (isO s.th) out).2 ⟨i,hl,h1⟩;rw[ho]at this;cases this
   ·simp at hi
    rw[show i=out.length by omega]
 ·refine⟨?_,fun i hi h1 z=> ?_⟩
  ·rw[has_put_other (kI_ne e),(h.2 t).1]
   simp[isO,fun x=>e (Eq.symm x)];intro x;exact absurd x.symm e
  ·rw[atKey_put_other (kI_ne e)]
   by_cases hl:i<out.length
   ·rw[getD_app hl]at h1
    exact(h.2 t).2 i hl h1 z
   ·simp at hi
    rw[show i=out.length by omega,getD_app_end]at h1;unfold isO at h1;rw[Bool.and_eq_true,decide_eq_true_eq]at h1;exact absurd h1.1.symm e
theorem any_set {out:List St}{j:Nat}{s:St}(hj:j<out.length)(f:St→Bool)(h:f s=f (out.getD j s0)):(out.set j s).any f=out.any f:=by
 rw[Bool.eq_iff_iff,any_iff,any_iff];constructor
 ·rintro⟨i,hi,he⟩
  rw[List.length_set]at hi;rw[getD_set hj]at he;by_cases e:i=j
  ·subst e
   rw[if_pos rfl,h]at he;exact⟨i,hi,he⟩
  ·rw[if_neg e]at he
   exact⟨i,hi,he⟩
 ·rintro⟨i,hi,he⟩
  refine⟨i,by rw[List.length_set];exact hi,?_⟩;rw[getD_set hj];by_cases e:i=j
  ·subst e
   rw[if_pos rfl,h];exact he
  ·rw[if_neg e]
   exact he
theorem MapR.set {D:DataW Unit}{out:List St}(h:MapR D out){j:Nat}{s:St}(hj:j<out.length)(he:∀t,isO t s=isO t (out.getD j s0)):MapR D (out.set j s):=by
 refine⟨h.1,fun t=>⟨by rw[(h.2 t).1,any_set hj _ (he t)],fun i hi h1 z=> ?_⟩⟩;rw[List.length_set]at hi;rw[getD_set hj]at h1;by_cases e:i=j
 ·subst e
  rw[if_pos rfl,he]at h1;exact(h.2 t).2 i hi h1 z
 ·rw[if_neg e]at h1
  exact(h.2 t).2 i hi h1 z
theorem MapR.close {D:DataW Unit}{out:List St}(h:MapR D out){j:Nat}{s:St}{t:Int}(hj:j<out.length)(ho:isO t (out.getD j s0)=true)(hr:¬s.re<0):MapR (D.del (kI t)) (out.set j s):=by
 have hs:∀u,isO u s=false:=fun u=>by unfold isO;rw[decide_eq_false hr,Bool.and_false]
 refine⟨h.1.del _,fun u=> ?_⟩
 have hany:∀i,i<out.length→isO u ((out.set j s).getD i s0)=true→i≠j∧isO u (out.getD i s0)=true:=fun i hi h1=>by
  rw[getD_set hj]at h1;by_cases e:i=j
  ·subst e
   rw[if_pos rfl,hs]at h1;cases h1
  ·rw[if_neg e]at h1
   exact⟨e,h1⟩
 by_cases e:u=t
 ·subst e
  have hno:∀i,i<out.length→isO u ((out.set j s).getD i s0)=true→False:=fun i hi h1=>by
   obtain⟨a,b⟩:=hany i hi h1;exact a (h.only hi hj b ho)
  refine⟨?_,fun i hi h1=>by rw[List.length_set]at hi;exact(hno i hi h1).elim⟩;rw[has_del_same];cases hx:(out.set j s).any (isO u)with
  |false=>rfl
  |true=>
   obtain⟨i,hi,h1⟩:=(any_iff _ _).1 hx;rw[List.length_set]at hi;exact(hno i hi h1).elim
 ·refine⟨?_,fun i hi h1 z=> ?_⟩
  ·rw[has_del_other (kI_ne e),(h.2 u).1,Bool.eq_iff_iff,any_iff,any_iff]
   constructor
   ·rintro⟨i,hi,h1⟩
    refine⟨i,by rw[List.length_set];exact hi,?_⟩;rw[getD_set hj];by_cases e2:i=j
    ·subst e2
     unfold isO at h1 ho;rw[Bool.and_eq_true,decide_eq_true_eq]at h1 ho;exact absurd (h1.1.symm.trans ho.1) e
    ·rw[if_neg e2]
     exact h1
   ·rintro⟨i,hi,h1⟩
    rw[List.length_set]at hi;exact⟨i,hi,(hany i hi h1).2⟩
  ·rw[List.length_set]at hi
   obtain⟨_,b⟩:=hany i hi h1;rw[atKey_del_other (kI_ne e)];exact(h.2 u).2 i hi b z
theorem MapR.map {D:DataW Unit}{out:List St}(h:MapR D out){j k:Nat}{e:E}(hj:j<out.length)(ho:isO e.th (out.getD j s0)=true):(out.map fun s=>if isO e.th s then noteP k s e else s)=out.set j (noteP k (out.getD j s0) e):=by
 apply List.ext_getElem?;intro i;rw[List.getElem?_map,List.getElem?_set];by_cases hi:i<out.length
 ·rw[List.getElem?_eq_getElem hi]
  have e1:out.getD i s0=out[i]:=by rw[List.getD_eq_getElem?_getD,List.getElem?_eq_getElem hi];rfl
  by_cases e2:j=i
  ·subst e2
   rw[if_pos rfl,if_pos hj];rw[e1]at ho⊢;simp[ho]
  ·rw[if_neg e2]
   have:¬isO e.th out[i]=true:=fun hx=>e2 (h.only hj hi ho (by rw[e1];exact hx));simp[this]
 ·rw[List.getElem?_eq_none (by omega)]
  split
  ·rename_i e2
   subst e2;exact absurd hj hi
  ·rfl
theorem step_hit {D:DataW Unit}{out:List St}(h:MapR D out){j k:Nat}{e:E}(hj:j<out.length)(ho:isO e.th (out.getD j s0)=true):stepP out k e=out.set j (noteP k (out.getD j s0) e):=by
 unfold stepP;rw[if_pos ((any_iff _ _).2 ⟨j,hj,ho⟩),h.map hj ho]
theorem step_new {out:List St}{k:Nat}{e:E}(h:out.any (isO e.th)=false)(h1:e.kind=1):stepP out k e=out++ [⟨e.th,e.rd,k,-1,-1,-1,0⟩]:=by
 unfold stepP;rw[h,if_neg (by simp),if_pos h1]
theorem step_none {out:List St}{k:Nat}{e:E}(h:out.any (isO e.th)=false)(h1:¬e.kind=1):stepP out k e=out:=by
 unfold stepP;rw[h,if_neg (by simp),if_neg h1]
theorem note_open {k:Nat}{s:St}{e:E}(h:¬(e.kind=4∧0≤s.ex))(t:Int):isO t (noteP k s e)=isO t s:=by
 unfold noteP;split
 ·rfl
 ·split
  ·rfl
  ·first|rfl|rw[if_neg h]
theorem note_end {k:Nat}{s:St}{e:E}(h:e.kind=4)(h2:0≤s.ex):noteB s e=true∧¬(noteP k s e).re<0:=by
 unfold noteB noteP;rw[if_neg (by omega),if_neg (by omega),if_pos ⟨h,h2⟩];exact⟨by simp[h,h2],by simp⟩
theorem stepP_len (out:List St)(k:Nat)(e:E):(stepP out k e).length≤out.length+1:=by
 unfold stepP;split
 ·rw[List.length_map];omega
 ·split
  ·rw[List.length_append];simp
  ·omega
theorem outP_len (l:List E):∀k,(outP l k).length≤k
 |0=>Nat.le_refl _
 |k+1=>by
  have:=outP_len l k;have:=stepP_len (outP l k) k (l.getD k e0);show(stepP (outP l k) k (l.getD k e0)).length≤_;omega
end Go.Proofs.YtfmiioddhpkdkaaGreat.Sp
