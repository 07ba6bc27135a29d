/- Merged texts: Wn3, Tq3, Rw1, Gg, WrL, Rw2. -/
import Derived.Test.YtfmiioddhpkdkaaGreatWz26
import Derived.Deep.Cut
import Derived.Deep.CutBlock
set_option linter.unusedVariables false
set_option linter.unusedSimpArgs false
set_option maxRecDepth 100000
set_option maxHeartbeats 8000000
namespace Go.Proofs.YtfmiioddhpkdkaaGreat.Wo
open Go.RowKit Ara Tp Lok Fl Lk Co Cm Ga Go.Proofs.YtfmiioddhpkdkaaGreat.Sp Wf
theorem woa_co {B:Nat}{q:Nw}(O:q.Ok)(hr:q.tN 0 q.NN≤4096)(hB:Bud.right q.B=true){gw ga gt gl:Nat}{W2 w':World}(hW:WoB w' gw ga gt gl (shK 6))(hR:RC B q ga gl W2)(hb:Below W2.heap.size W2 w')(h1:W2.heap.size≤gw)(h2:gw<w'.heap.size):
 ∃c:Cd,(∀x∈colS c.col w'.heap.size,B≤x)∧LI gl (ldC (q.pm (Ar.fresh 4096))) (fun k W x=>CA gl 6 c (q.pm (Ar.fresh 4096)) (q.NN+1) w'.heap.size k W x) (fun b=>b=false) (colS c.col w'.heap.size) w'.heap.size∧
  WoA gw ga gt gl (ldC (q.pm (Ar.fresh 4096))) (fun k W x=>CA gl 6 c (q.pm (Ar.fresh 4096)) (q.NN+1) w'.heap.size k W x) (colS c.col w'.heap.size) w'.heap.size 0 w' (q.st (Ar.fresh 4096)):=by
 obtain⟨cd,r1,r2,r3,r4⟩:=hR;have hgl:gl<W2.heap.size:=lt_of_blk r1;have hz:=hb.size;have hsh:shK 6=false:=by decide
 rw[hsh]at hW;have hrm:q.tN (Ar.fresh 4096).t q.NN≤(Ar.fresh 4096).ws.length:=by rw[fresh_len];exact hr
 have hNN:q.NN≤4000:=by
  have:∀n,n≤q.NN→n≤q.tN 0 n:=fun n=>by
   induction n with
   |zero=>intro _;exact Nat.zero_le _
   |succ n ih=>intro h;have:=ih (by omega);unfold Nw.tN;omega
  have:=this q.NN (Nat.le_refl _);have h5:=O.g.2.1.2;omega
 have K:=r2.same hb;refine⟨cd,fun x hx=> ?_,li_co (Nw.dj O hrm) hB (by omega),⟨hW,⟨r1.same hb,K,Nw.ci O hrm (fun k _=>zeros_at 4096 k) (by rw[fresh_len];exact Nat.le_refl _) (by show 0+q.NN+1≤q.NN+1+0;omega),rfl,r3,⟨by omega,CoAt.clo K⟩,fun x hx=>K.s.fresh x hx,Nat.le_refl _⟩,fun hx=> ?_,h2,Nat.le_refl _⟩⟩
 ·have:=(mem_colS.1 hx).2
  exact Nat.le_of_not_lt fun h=>this (r4 x h)
 ·exact(mem_colS.1 hx).2 (r2.s.fresh gw h1)
end Go.Proofs.YtfmiioddhpkdkaaGreat.Wo
namespace Go.Proofs.YtfmiioddhpkdkaaGreat.Tq
open Go.RowKit Ara Tp Lok Wo Co Cm Wf
theorem frame75 {a:Act}(h:a.tmps.size=75)(hd:a.defers=[]):∃u:Nat→Value,a={tmps:= #[u 0,u 1,u 2,u 3,u 4,u 5,u 6,u 7,u 8,u 9,u 10,u 11,u 12,u 13,u 14,u 15,u 16,u 17,u 18,u 19,u 20,u 21,u 22,u 23,u 24,u 25,u 26,u 27,u 28,u 29,u 30,u 31,u 32,u 33,u 34,u 35,u 36,u 37,u 38,u 39,u 40,u 41,u 42,u 43,u 44,u 45,u 46,u 47,u 48,u 49,u 50,u 51,u 52,u 53,u 54,u 55,u 56,u 57,u 58,u 59,u 60,u 61,u 62,u 63,u 64,u 65,u 66,u 67,u 68,u 69,u 70,u 71,u 72,u 73,u 74],defers:=[]}∧∀n,a.tmps.getD n undef=u n:=by
 refine⟨fun n=>a.tmps.getD n undef,?_,fun _=>rfl⟩;have h1:=arr_lit a.tmps h;cases a with
 |mk t d=>
  simp only at hd h1;subst hd;congr 1
def dPk (q:Int×Int):List Value:=[.int .i64 q.1,.int .i64 q.2]
theorem row_cell {W:World}{g:Nat}{T:TypeId}{α:Type}{dec:α→List Value}{k:Nat}(hdk:∀a,(dec a).length=k){l:List α}(h:W.heap[g]? =some (.cells (l.flatMap dec).toArray T (0,0))){i j:Nat}(hi:i<l.length)(hj:j<k):W.cell? ⟨g,i*k+j,none⟩=(dec l[i])[j]? :=by
 have h3:=flat_get hdk l i j hj l[i] (List.getElem?_eq_getElem hi)
 have hl:i*k+j<(l.flatMap dec).length:=by
  rw[flat_len hdk];have:i*k+k≤l.length*k:=by rw[←Nat.succ_mul];exact Nat.mul_le_mul_right k hi
  omega
 rw[blk_cell h (i*k+j) (by simpa using hl),←h3];simp[hl]
abbrev awAt (gw ga gt gl:Nat)(c:Cd)(L k:Nat)(W:World)(x:CS):Prop:=WoA gw ga gt gl (ldC pmW) (fun k W x=>CA gl 6 c pmW (nwW.NN+1) L k W x) (colS c.col L) L k W x
def AwJ (gw ga gt gl:Nat)(c:Cd)(L gq gp:Nat)(w:World)(a:Act)(W:World):Prop:=
 a.tmps.size=75∧a.defers=[]∧a.tmps.getD 1 undef= .pointer (some ⟨gw,0,none⟩)∧a.tmps.getD 3 undef= .pointer (some ⟨gq,0,none⟩)∧a.tmps.getD 5 undef= .slice (some ⟨gp,0,none⟩) 23 23∧∃i:Nat,a.tmps.getD 4 undef= .int .i64 (awC i:Int)∧a.tmps.getD 6 undef= .int .i64 (i:Int)∧i≤23∧awAt gw ga gt gl c L i W (awk i)∧W.heap[gq]? =some (.cells (wantW.flatMap decI).toArray 70 (0,0))∧W.heap[gp]? =some (.cells (pkW.flatMap dPk).toArray 47 (0,0))∧Below w.heap.size w W
theorem awake_any (w:World):Calls Tryz.prog 8 #[] w fun e w'=>e= .returned (.bool true)∧Below w.heap.size w w':=by
 go_enter Tryz.func8,Tryz.ntmps8;go_wp2_with fail;refine(two_any w).mono ?_;rintro e W1 ⟨A,B,rfl,s1,s2,hb1⟩;have HB1:=Lib.hid hb1;have HN:=Lib.hid (wnew_co w.heap.size twoP twoT A B 3 4 W1 hb1.size hckW s1 s2 2 4 1 1 (by decide) (by decide) (by decide) (by decide) (by decide));clear s1 s2 hb1;go_wp2_with fail;refine HN.out.mono ?_;unfold NewW;rintro e W2 ⟨gw,ga,gt,gl,V2,rfl,e2,e3,e4,e5,e6,hb2⟩;obtain⟨cd,hc1,hc2,hc3⟩:=woa_co (q:=nwW) okW (by decide) brW e2 e3 e4 e5 e6;have HG:=Lib.hid (show LI gl (ldC pmW) (fun k W x=>CA gl 6 cd pmW (nwW.NN+1) W2.heap.size k W x) (fun b=>b=false) (colS cd.col W2.heap.size) W2.heap.size from hc2);have HK:=Lib.hid (show awAt gw ga gt gl cd W2.heap.size 0 W2 (awk 0) from hc3);have HB2:=Lib.hid (HB1.out.trans (hb2.mono HB1.out.size));have HS:=Lib.hid hc1;clear e2 e3 e4 e5 e6 hb2 hc1 hc2 hc3 HN HB1;go_wp2_with fail;have hz1:(W2.alloc (.cells (wantW.flatMap decI).toArray 70)).heap.size=W2.heap.size+1:=by simp
 have hbb:Below W2.heap.size W2 ((W2.alloc (.cells (wantW.flatMap decI).toArray 70)).alloc (.cells (pkW.flatMap dPk).toArray 47)):=(below_new _ _).alloc (by simp) _;have hq0:((W2.alloc (.cells (wantW.flatMap decI).toArray 70)).alloc (.cells (pkW.flatMap dPk).toArray 47)).heap[W2.heap.size]? =some (.cells (wantW.flatMap decI).toArray 70 (0,0)):=(heap_alloc_old _ _ (by simp)).trans (blk_new _ _);have hp0:=blk_new (W2.alloc (.cells (wantW.flatMap decI).toArray 70)) (.cells (pkW.flatMap dPk).toArray 47);rw[hz1]at hp0;have HI:=Lib.hid (And.intro (HK.out.same HG.out hbb) (And.intro hq0 (And.intro hp0 (HB2.out.trans (hbb.mono HB2.out.size)))));have HL:=Lib.hid HB2.out.size;clear hbb hq0 hp0 hz1 HK HB2;generalize hL:W2.heap.size=L at*;refine wp_loop (AwJ gw ga gt gl cd L L (L+1) w) (fun a' _=>23-(intOf (a'.tmps.getD 6 undef)).toNat) ?_ ?_
 ·exact⟨rfl,rfl,rfl,rfl,rfl,0,rfl,rfl,Nat.zero_le _,HI.out.1,HI.out.2.1,HI.out.2.2.1,HI.out.2.2.2⟩
 ·clear HI hL
  rintro a' W ⟨hsz,hdf,s1,s3,s5,i,s4,s6,hi,hK,hq,hp,hB⟩;obtain⟨u,rfl,hu⟩:=frame75 hsz hdf;rw[hu]at s1 s3 s5 s4 s6;simp only[s1,s3,s5,s4,s6];clear hsz hdf s1 s3 s5 s4 s6 hu;have HB:=Lib.hid hB;have HQ:=Lib.hid hq;have HP:=Lib.hid hp;have HK:=Lib.hid hK;have hlp:pkW.length=23:=rfl;clear hB hq hp hK;by_cases hlt:i<23
  ·have c0:=row_cell (dec:=dPk) (k:=2) (fun _=>rfl) HP.out (i:=i) (j:=0) (by omega) (by omega)
   have c1:=row_cell (dec:=dPk) (k:=2) (fun _=>rfl) HP.out (i:=i) (j:=1) (by omega) (by omega);simp only[dPk,List.getElem?_cons_zero,List.getElem?_cons_succ,Nat.add_zero]at c0 c1;have hgd:pkW.getD i (0,0)=pkW[i]:=by rw[List.getD_eq_getElem?_getD,List.getElem?_eq_getElem (show i<pkW.length by omega)];rfl
   have hE:awE i=(wact (ldC pmW) (awk i) pkW[i].1 pkW[i].2).1:=by rw[←hgd];rfl
   have hX:awk (i+1)=(wact (ldC pmW) (awk i) pkW[i].1 pkW[i].2).2:=by rw[←hgd];rfl
   have hC:awC (i+1)=if(awE i).1=0 then awC i else awC i+1:=rfl
   have hat:=aw_at hlt;have i1:(i:Int)<23:=by omega
   have HD:=Lib.hid (do_wo HG.out HK.out pkW[i].1 pkW[i].2 (by omega) (fun _=>rfl) (fun _ h=>by cases h));rw[hE]at hC hat;clear hgd hE;generalize pkW[i]=pq at*;obtain⟨pt,pw⟩:=pq;simp only at c0 c1 hX hC hat HD;generalize hax:awk (i+1)=ax at*;have HAX:=Lib.hid hax;clear hax;generalize wact (ldC pmW) (awk i) pt pw=r at*;obtain⟨⟨ek,et,er,ec⟩,x2⟩:=r;simp only at hX hC hat;subst hX;generalize hcn:awC (i+1)=cn at*;have HCN:=Lib.hid hC;have HDN:=Lib.hid hcn;clear hcn;have HAT:=Lib.hid hat;clear hC hat;unfold WAft at HD;simp only[wev]at HD;go_wp2_with fail;refine HD.out.mono ?_;rintro e W4 ⟨rfl,hk4,hm4⟩;have hbe:=below_new W4 (.cells #[.int .i64 ek,.int .i64 et,.bool er,.int .i64 ec] 44);have hlo:∀q∈colS cd.col L,q<L:=HG.out.lt;have HK5:=Lib.hid (hk4.same HG.out hbe);have HQ5:=Lib.hid ((Mod.of_below (S:=[]) hbe).blk (hm4.blk HQ.out (fun h=>by have:=hlo _ h;omega)) (by simp));have HP5:=Lib.hid ((Mod.of_below (S:=[]) hbe).blk (hm4.blk HP.out (fun h=>by have:=hlo _ h;omega)) (by simp));have HB5:=Lib.hid (show Below w.heap.size w (W4.alloc (.cells #[.int .i64 ek,.int .i64 et,.bool er,.int .i64 ec] 44)) from(HB.out.trans (hm4.below HB.out.size (fun q hq=>HS.out q hq))).trans (hbe.mono (Nat.le_trans HB.out.size hm4.size)));clear hk4 hm4 hbe hlo HK HQ HP HB HD c0 c1;by_cases h0:ek=0
   ·have hcc:=HCN.out
    rw[if_pos h0]at hcc;have HCC:=Lib.hid hcc;clear hcc HCN HAT;subst h0;go_wp2_with fail;go_roundw
    case rel=>exact⟨rfl,rfl,rfl,rfl,rfl,i+1,by rw[HDN.out,HCC.out];rfl,by go_num,by omega,by rw[HAX.out];exact HK5.out,HQ5.out,HP5.out,HB5.out⟩
    case measure=>simp[intOf];omega
   ·have hcc:=HCN.out
    rw[if_neg h0]at hcc;obtain⟨ha6,hek⟩:=HAT.out.resolve_left h0;have HCC:=Lib.hid hcc;have e0:=ibeq_no h0;have cq:=row_cell (dec:=decI) (k:=1) (fun _=>rfl) HQ5.out (i:=awC i) (j:=0) ha6 (by omega);have hwg:wantW.getD (awC i) 0=wantW[awC i]'ha6:=by rw[List.getD_eq_getElem?_getD,List.getElem?_eq_getElem (show awC i<wantW.length from ha6)];rfl
    rw[hwg]at hek;simp only[decI,List.getElem?_cons_zero,Nat.add_zero,Nat.mul_one]at cq;rw[←hek]at cq;clear hcc HCN HAT hwg hek h0;generalize awC i=ai at*;have j1:(ai:Int)<6:=by omega
    have j2:¬6≤(ai:Int):=by omega
    have j3:decide (6≤(ai:Int))=false:=decide_eq_false j2;have j4:=ibeq (rfl:ek=ek);have ev0:=blk_cell (blk_new W4 (.cells #[.int .i64 ek,.int .i64 et,.bool er,.int .i64 ec] 44)) 0 (by simp);simp only[List.getElem_toArray,List.getElem_cons_zero]at ev0;go_upto_region 11 with fail;go_quiet(fail);go_wp2_with fail;go_roundw
    case rel=>exact⟨rfl,rfl,rfl,rfl,rfl,i+1,by rw[HDN.out,HCC.out];go_num,by go_num,by omega,by rw[HAX.out];exact HK5.out.drewN HG.out nq,HQ5.out,HP5.out,below_drewN HB5.out nq⟩
    case measure=>simp[intOf];omega
  ·obtain rfl:i=23:=by omega
   have i1:¬(23:Int)<23:=by omega
   have hend:=aw_end;rw[hend];go_wp2_with fail;go_ret;exact⟨rfl,HB.out⟩
end Go.Proofs.YtfmiioddhpkdkaaGreat.Tq
namespace Go.Proofs.YtfmiioddhpkdkaaGreat.Rw
open Go.RowKit Ara Lok Ga Lk
def RwB (W:World)(gr:Nat)(m:Int)(Ty:TypeId)(v:Value):Prop:=W.heap[gr]? =some (.cells #[.int .i64 m,.iface Ty v] 209 (0,0))
theorem RwB.same {W W':World}{gr:Nat}{m:Int}{Ty:TypeId}{v:Value}(h:RwB W gr m Ty v)(b:Below W.heap.size W W'):RwB W' gr m Ty v:=(b.block _ (lt_of_blk h)).trans h
theorem RwB.mod {W W':World}{gr:Nat}{m:Int}{Ty:TypeId}{v:Value}(h:RwB W gr m Ty v){S:List Nat}(hm:Mod S W W')(hn:gr∉S):RwB W' gr m Ty v:=hm.blk h hn
section
variable(gr:Nat)(m:Int)(Ty:TypeId)(v:Value)(w:World)(H:RwB w gr m Ty v)(h0:m≠0)
include H h0
theorem made_rw:Calls Tryz.prog 287 #[.pointer (some ⟨gr,0,none⟩)] w fun e w'=>e= .returned (.bool true)∧w'=w:=by
 have e0:=ibne h0;have c0:=blk_cell H 0 (by simp);have c1:=blk_cell H 1 (by simp);simp at c0 c1;clear H h0;go_enter Tryz.func287,Tryz.ntmps287;go_wp2_with fail;go_ret;exact⟨rfl,rfl⟩
variable(F:FuncId)(r:Value)
theorem Leave_rw (hc:∀a W,(callFunc F a).run Tryz.prog W= .ok (.enter F a) W)(hm:∀W,(method 456 Ty v "Leave").run Tryz.prog W= .ok (F,r) W)(i:Int)(b:Bool)(R:World→Prop)(HC:Calls Tryz.prog F #[r,.int .i64 i] w fun e w'=>e= .returned (.bool b)∧R w'):
 Calls Tryz.prog 283 #[.pointer (some ⟨gr,0,none⟩),.int .i64 i] w fun e w'=>e= .returned (.bool b)∧R w':=by
 have HH:=Lib.hid (made_rw gr m Ty v w H h0);have c0:=blk_cell H 0 (by simp);have c1:=blk_cell H 1 (by simp);simp at c0 c1;replace HC:=Lib.hid HC;clear H h0;go_enter Tryz.func283,Tryz.ntmps283;go_wp2_with fail;refine(HH.out).mono ?_;rintro e wx ⟨rfl,hwx⟩;obtain rfl:=hwx.symm;go_wp2_with fail;refine HC.out.mono ?_;rintro e w2 ⟨rfl,h2⟩;replace h2:=Lib.hid h2;go_wp2_with fail;go_ret;exact⟨rfl,h2.out⟩
theorem Step_rw (hc:∀a W,(callFunc F a).run Tryz.prog W= .ok (.enter F a) W)(hm:∀W,(method 456 Ty v "Step").run Tryz.prog W= .ok (F,r) W)(i:Int)(b:Bool)(R:World→Prop)(HC:Calls Tryz.prog F #[r,.int .i64 i] w fun e w'=>e= .returned (.bool b)∧R w'):
 Calls Tryz.prog 286 #[.pointer (some ⟨gr,0,none⟩),.int .i64 i] w fun e w'=>e= .returned (.bool b)∧R w':=by
 have HH:=Lib.hid (made_rw gr m Ty v w H h0);have c0:=blk_cell H 0 (by simp);have c1:=blk_cell H 1 (by simp);simp at c0 c1;replace HC:=Lib.hid HC;clear H h0;go_enter Tryz.func286,Tryz.ntmps286;go_wp2_with fail;refine(HH.out).mono ?_;rintro e wx ⟨rfl,hwx⟩;obtain rfl:=hwx.symm;go_wp2_with fail;refine HC.out.mono ?_;rintro e w2 ⟨rfl,h2⟩;replace h2:=Lib.hid h2;go_wp2_with fail;go_ret;exact⟨rfl,h2.out⟩
theorem Ask_rw (hc:∀a W,(callFunc F a).run Tryz.prog W= .ok (.enter F a) W)(hm:∀W,(method 456 Ty v "Ask").run Tryz.prog W= .ok (F,r) W)(i:Int)(rd:Bool)(b:Bool)(R:World→Prop)(HC:Calls Tryz.prog F #[r,.int .i64 i,.bool rd] w fun e w'=>e= .returned (.bool b)∧R w'):
 Calls Tryz.prog 282 #[.pointer (some ⟨gr,0,none⟩),.int .i64 i,.bool rd] w fun e w'=>e= .returned (.bool b)∧R w':=by
 have HH:=Lib.hid (made_rw gr m Ty v w H h0);have c0:=blk_cell H 0 (by simp);have c1:=blk_cell H 1 (by simp);simp at c0 c1;replace HC:=Lib.hid HC;clear H h0;go_enter Tryz.func282,Tryz.ntmps282;go_wp2_with fail;refine(HH.out).mono ?_;rintro e wx ⟨rfl,hwx⟩;obtain rfl:=hwx.symm;go_wp2_with fail;refine HC.out.mono ?_;rintro e w2 ⟨rfl,h2⟩;replace h2:=Lib.hid h2;go_wp2_with fail;go_ret;exact⟨rfl,h2.out⟩
theorem Spot_rw (hc:∀a W,(callFunc F a).run Tryz.prog W= .ok (.enter F a) W)(hm:∀W,(method 456 Ty v "Spot").run Tryz.prog W= .ok (F,r) W)(i:Int)(s:Sp)(HC:∀W,Below w.heap.size w W→Calls Tryz.prog F #[r,.int .i64 i] W fun e w'=>e= .returned (vSp s)∧Below W.heap.size W w'):
 Calls Tryz.prog 285 #[.pointer (some ⟨gr,0,none⟩),.int .i64 i] w fun e w'=>e= .returned (vSp s)∧Below w.heap.size w w':=by
 have hb:=below_new w (.cells #[.int .i64 0,.int .i64 0,.int .i64 0,.int .i64 0] 134);have hx:=blk_new w (.cells #[.int .i64 0,.int .i64 0,.int .i64 0,.int .i64 0] 134);have HB:=Lib.hid hb;have HX:=Lib.hid hx;have H1:=RwB.same H hb;have HH:=Lib.hid (made_rw gr m Ty v _ H1 h0);replace HC:=Lib.hid (HC _ hb);have c0:=blk_cell H1 0 (by simp);have c1:=blk_cell H1 1 (by simp);simp at c0 c1;clear H H1 hb hx h0;go_enter Tryz.func285,Tryz.ntmps285;go_wp2_with fail;refine(HH.out).mono ?_;rintro e wx ⟨rfl,hwx⟩;obtain rfl:=hwx.symm;go_wp2_with fail;refine HC.out.mono ?_;rintro e w2 ⟨rfl,h2⟩;have hs2:=h2.size;have HX2:=Lib.hid ((Mod.of_below (S:=[]) h2).blk HX.out (by simp));have HB2:=Lib.hid (HB.out.trans (h2.mono HB.out.size));clear HX HB HC HH c0 c1 h2;unfold vSp;obtain⟨sa,sb,sc,sd⟩:=s;have d0:=blk_cell HX2.out 0 (by simp);have d1:=blk_cell HX2.out 1 (by simp);have d2:=blk_cell HX2.out 2 (by simp);have d3:=blk_cell HX2.out 3 (by simp);simp only[List.getElem_toArray,List.getElem_cons_zero,List.getElem_cons_succ]at d0 d1 d2 d3;have f0:=blk_free HX2.out 0;have f1:=blk_free HX2.out 1;have f2:=blk_free HX2.out 2;have f3:=blk_free HX2.out 3;have k0:=blk_set HX2.out 0 (.int .i64 sa);have k1:=blk_set k0 1 (.int .i64 sb);have k2:=blk_set k1 2 (.int .i64 sc);have k3:=blk_set k2 3 (.int .i64 sd);have g0:=blk_cell k0 0 (by simp);have g1:=blk_cell k1 1 (by simp);have g2:=blk_cell k2 2 (by simp);have g3:=blk_cell k3 3 (by simp);simp at g0 g1 g2 g3;clear k0 k1 k2 k3;go_wp2_with fail;refine bodyPost_ret (v:= .agg #[.int .i64 sa,.int .i64 sb,.int .i64 sc,.int .i64 sd]) ?_ rfl ⟨rfl,?_⟩
 ·simp[results,Tryz.results285,go_sem,g0,g1,g2,g3]
 ·exact(((HB2.out.setCell (Nat.le_refl _) _).setCell (Nat.le_refl _) _).setCell (Nat.le_refl _) _).setCell (Nat.le_refl _) _
end
def botV (gr:Nat):Value:= .agg #[.pointer (some ⟨gr,0,none⟩)]
theorem bmLeave (gr:Nat)(w:World):(method 456 166 (botV gr) "Leave").run Tryz.prog w= .ok (283,.pointer (some ⟨gr,0,none⟩)) w:=by kernel_rfl
theorem bmStep (gr:Nat)(w:World):(method 456 166 (botV gr) "Step").run Tryz.prog w= .ok (286,.pointer (some ⟨gr,0,none⟩)) w:=by kernel_rfl
theorem bmSpot (gr:Nat)(w:World):(method 456 166 (botV gr) "Spot").run Tryz.prog w= .ok (285,.pointer (some ⟨gr,0,none⟩)) w:=by kernel_rfl
theorem bmAsk (gr:Nat)(w:World):(method 456 166 (botV gr) "Ask").run Tryz.prog w= .ok (282,.pointer (some ⟨gr,0,none⟩)) w:=by kernel_rfl
theorem bmCount (gr:Nat)(w:World):(method 456 166 (botV gr) "Count").run Tryz.prog w= .ok (288,botV gr) w:=by kernel_rfl
theorem bmfSpot (gr:Nat)(w:World):(method 456 162 (.pointer (some ⟨gr,0,none⟩)) "Spot").run Tryz.prog w= .ok (285,.pointer (some ⟨gr,0,none⟩)) w:=by kernel_rfl
theorem bcLeave (a:Array Value)(w:World):(callFunc 283 a).run Tryz.prog w= .ok (.enter 283 a) w:=by kernel_rfl
theorem bcStep (a:Array Value)(w:World):(callFunc 286 a).run Tryz.prog w= .ok (.enter 286 a) w:=by kernel_rfl
theorem bcSpot (a:Array Value)(w:World):(callFunc 285 a).run Tryz.prog w= .ok (.enter 285 a) w:=by kernel_rfl
theorem bcAsk (a:Array Value)(w:World):(callFunc 282 a).run Tryz.prog w= .ok (.enter 282 a) w:=by kernel_rfl
theorem bcCount (a:Array Value)(w:World):(callFunc 288 a).run Tryz.prog w= .ok (.enter 288 a) w:=by kernel_rfl
section
variable(gr:Nat)(w:World)(s:Sp)(i:Int)(HC:∀W,Below w.heap.size w W→Calls Tryz.prog 285 #[.pointer (some ⟨gr,0,none⟩),.int .i64 i] W fun e w'=>e= .returned (vSp s)∧Below W.heap.size W w')
include HC
theorem one_rw:Calls Tryz.prog 238 #[.iface 162 (.pointer (some ⟨gr,0,none⟩)),.int .i64 i] w fun e w'=>e= .returned (.int .i64 (if s.pc=10 then 1 else 0))∧Below w.heap.size w w':=by
 have HS:=Lib.hid (HC _ (Below.refl _ _));have hf:=fun a b c d W=>sfld a b c d W;have h1:=fun W=>bmfSpot gr W;have h2:=fun a W=>bcSpot a W;clear HC;obtain⟨xp,xa,xb,xc⟩:=s;unfold vSp at HS;simp only at HS⊢;by_cases h:xp=10
 ·subst h
  rw[if_pos rfl];go_enter Tryz.func238,Tryz.ntmps238;go_wp2_with fail;refine HS.out.mono ?_;rintro e w2 ⟨rfl,hb⟩;have hb:=Lib.hid hb;go_wp2_with fail;go_ret;exact⟨rfl,hb.out⟩
 ·rw[if_neg h]
  have e0:=ibeq_no h;go_enter Tryz.func238,Tryz.ntmps238;go_wp2_with fail;refine HS.out.mono ?_;rintro e w2 ⟨rfl,hb⟩;have hb:=Lib.hid hb;go_wp2_with fail;go_ret;exact⟨rfl,hb.out⟩
theorem both_count:Calls Tryz.prog 288 #[botV gr,.int .i64 i] w fun e w'=>e= .returned (.int .i64 (if s.pc=10 then 1 else 0))∧Below w.heap.size w w':=by
 have hb:=below_new w (.cells #[.pointer (some ⟨gr,0,none⟩)] 166);have HA:=Lib.hid (one_rw gr _ s i (fun W k=>HC W (hb.trans (k.mono hb.size))));have HB:=Lib.hid hb;clear HC hb;unfold botV;generalize(if s.pc=10 then(1:Int)else 0)=c at*;go_enter Tryz.func288,Tryz.ntmps288;go_wp2_with fail;refine HA.out.mono ?_;rintro e w2 ⟨rfl,h2⟩;have h2:=Lib.hid (HB.out.trans (h2.mono HB.out.size));go_wp2_with fail;go_ret;exact⟨rfl,h2.out⟩
end
end Go.Proofs.YtfmiioddhpkdkaaGreat.Rw
namespace Go.Proofs.YtfmiioddhpkdkaaGreat.Gg
open Go.RowKit Ara
def GgB (W:World)(gg ga:Nat)(f n:Int):Prop:=W.heap[gg]? =some (.cells #[.pointer (some ⟨ga,0,none⟩),.int .i64 f,.int .i64 n] 281 (0,0))
section
variable(gg ga:Nat)(f n:Int)(w:World)(H:GgB w gg ga f n)
include H
theorem nodes_gg:Calls Tryz.prog 313 #[.pointer (some ⟨gg,0,none⟩)] w fun e w'=>e= .returned (.int .i64 n)∧w'=w:=by
 have c0:=blk_cell H 0 (by simp);have c1:=blk_cell H 1 (by simp);have c2:=blk_cell H 2 (by simp);simp at c0 c1 c2;clear H;go_enter Tryz.func313,Tryz.ntmps313;go_wp2_with fail;go_ret;exact⟨rfl,rfl⟩
theorem word_gg (k:Int)(h0:0≤k)(h1:k<n)(hn:n≤1000)(hf:0≤f∧f≤100000):Calls Tryz.prog 310 #[.pointer (some ⟨gg,0,none⟩),.int .i64 k] w fun e w'=>e= .returned (.int .i64 (f+2*k))∧w'=w:=by
 have HN:=Lib.hid (nodes_gg gg ga f n w H);have c0:=blk_cell H 0 (by simp);have c1:=blk_cell H 1 (by simp);have c2:=blk_cell H 2 (by simp);simp at c0 c1 c2;have e1:IntKind.i64.wrap (2*k)=2*k:=IntWalk.i64_in _ (by omega);have e2:IntKind.i64.wrap (f+2*k)=f+2*k:=IntWalk.i64_in _ (by omega);clear H;go_enter Tryz.func310,Tryz.ntmps310;go_wp2_with fail;refine(HN.out).mono ?_;rintro e wx ⟨rfl,hwx⟩;obtain rfl:=hwx.symm;go_wp2_with fail;go_ret;exact⟨rfl,rfl⟩
variable(ha:Nat)(σ:Ar)(A:ArAt w ga ha σ)(ho:σ.ops≤1000000)
include A ho
theorem add_gg (k j:Int)(h0:0≤k)(h1:k<n)(hn:n≤1000)(hf:1≤f∧f≤100000)(hj:0≤j∧j≤1):Calls Tryz.prog 305 #[.pointer (some ⟨gg,0,none⟩),.int .i64 k,.int .i64 j] w fun e w'=>e= .returned (.tuple #[])∧ArAt w' ga ha (σ.op 5 (f+2*k+j) true (wrap64 (σ.get (f+2*k+j)+1)))∧Mod [ga,ha] w w':=by
 have HW:=Lib.hid (word_gg gg ga f n w H k h0 h1 hn (by omega));have hA:=add_any ga ha σ w A ho (f+2*k+j) 1;generalize(if σ.has (f+2*k+j)=true then wrap64 (σ.get (f+2*k+j)+1)else 0)=av at hA;have HA:=Lib.hid hA;clear hA;have c0:=blk_cell H 0 (by simp);have c1:=blk_cell H 1 (by simp);have c2:=blk_cell H 2 (by simp);simp at c0 c1 c2;have e2:IntKind.i64.wrap (f+2*k+j)=f+2*k+j:=IntWalk.i64_in _ (by omega);have i1:0<f+2*k:=by omega
 clear H A;go_enter Tryz.func305,Tryz.ntmps305;go_wp2_with fail;refine(HW.out).mono ?_;rintro e wx ⟨rfl,hwx⟩;obtain rfl:=hwx.symm;go_wp2_with fail;refine HA.out.mono ?_;rintro e w2 ⟨rfl,ha2,hm2⟩;have HA2:=Lib.hid ha2;have HM2:=Lib.hid hm2;clear ha2 hm2 HA;go_wp2_with fail;go_end0;exact⟨rfl,HA2.out,HM2.out⟩
theorem Enter_gg (k:Int)(h0:0≤k)(h1:k<n)(hn:n≤1000)(hf:1≤f∧f≤100000):Calls Tryz.prog 301 #[.pointer (some ⟨gg,0,none⟩),.int .i64 k] w fun e w'=>e= .returned (.tuple #[])∧ArAt w' ga ha (σ.op 5 (f+2*k+0) true (wrap64 (σ.get (f+2*k+0)+1)))∧Mod [ga,ha] w w':=by
 have HA:=Lib.hid (add_gg gg ga f n w H ha σ A ho k 0 h0 h1 hn hf (by omega));clear H A;go_enter Tryz.func301,Tryz.ntmps301;go_wp2_with fail;refine HA.out.mono ?_;rintro e w2 ⟨rfl,ha2,hm2⟩;have HA2:=Lib.hid ha2;have HM2:=Lib.hid hm2;clear ha2 hm2 HA;go_wp2_with fail;go_end0;exact⟨rfl,HA2.out,HM2.out⟩
theorem Exit_gg (k:Int)(h0:0≤k)(h1:k<n)(hn:n≤1000)(hf:1≤f∧f≤100000):Calls Tryz.prog 302 #[.pointer (some ⟨gg,0,none⟩),.int .i64 k] w fun e w'=>e= .returned (.tuple #[])∧ArAt w' ga ha (σ.op 5 (f+2*k+1) true (wrap64 (σ.get (f+2*k+1)+1)))∧Mod [ga,ha] w w':=by
 have HA:=Lib.hid (add_gg gg ga f n w H ha σ A ho k 1 h0 h1 hn hf (by omega));clear H A;go_enter Tryz.func302,Tryz.ntmps302;go_wp2_with fail;refine HA.out.mono ?_;rintro e w2 ⟨rfl,ha2,hm2⟩;have HA2:=Lib.hid ha2;have HM2:=Lib.hid hm2;clear ha2 hm2 HA;go_wp2_with fail;go_end0;exact⟨rfl,HA2.out,HM2.out⟩
end
theorem new_gg (ga ha:Nat)(σ:Ar)(w:World)(A:ArAt w ga ha σ)(n:Nat)(hn:1≤n∧n≤32)(hr:σ.t+2*n≤σ.ws.length)(hw:σ.ws.length≤4096):
 Calls Tryz.prog 106 #[.pointer (some ⟨ga,0,none⟩),.int .i64 (n:Int)] w fun e w'=>∃gg,e= .returned (.tuple #[.pointer (some ⟨gg,0,none⟩),.int .i64 0])∧GgB w' gg ga ((σ.t:Int)+1) n∧w.heap.size≤gg∧ArAt w' ga ha {σ with t:=σ.t+2*n}∧Mod [ga,ha] w w':=by
 have hT:=take_any ga ha σ w A (2*(n:Int));rw[show(2*(n:Int))=((2*n:Nat):Int) by omega,Fl.take_ok (m:=2*n) hr]at hT;simp only at hT;rw[show((2*n:Nat):Int)=2*(n:Int) by omega]at hT;have HT:=Lib.hid hT;have e1:IntKind.i64.wrap (2*(n:Int))=2*(n:Int):=IntWalk.i64_in _ (by omega);have i1:¬(n:Int)<1:=by omega
 have i2:¬(32:Int)<(n:Int):=by omega
 clear A hT;generalize(σ.t:Int)+1=f at*;go_enter Tryz.func106,Tryz.ntmps106;go_wp2_with fail;refine HT.out.mono ?_;rintro e w2 ⟨rfl,ha2,hm2⟩;have HA2:=Lib.hid ha2;have HM2:=Lib.hid hm2;clear ha2 hm2 HT;go_wp2_with fail;go_ret2;have hb:=below_new w2 (.cells #[.pointer (some ⟨ga,0,none⟩),.int .i64 f,.int .i64 (n:Int)] 281);exact⟨_,rfl,blk_new _ _,HM2.out.size,HA2.out.step hb,HM2.out.trans (Mod.of_below hb)⟩
theorem new_dr (gg:Nat)(w:World):Calls Tryz.prog 107 #[.pointer (some ⟨gg,0,none⟩)] w fun e w'=>∃gd,e= .returned (.pointer (some ⟨gd,0,none⟩))∧gd=w.heap.size∧Below w.heap.size w w':=by
 go_enter Tryz.func107,Tryz.ntmps107;go_wp2_with fail;go_ret;exact⟨_,rfl,rfl,below_new _ _⟩
end Go.Proofs.YtfmiioddhpkdkaaGreat.Gg
namespace Go.Proofs.YtfmiioddhpkdkaaGreat.Wr
open Go.RowKit Ara Lok Fl Ga Go.Proofs.YtfmiioddhpkdkaaGreat.Sp Wf Wn Wo Lk
structure Rp where
 m:Int
 T:Nat
 NN:Nat
 f:Int
 fl:Int
 nd:Nat→Nat
structure RpOk (P:Rp):Prop where
 m3:1≤P.m∧P.m≤3
 f1:1≤P.f∧P.f≤10000
 fl:P.fl=P.f+2*(P.NN:Int)
 nn:P.NN≤1000
 nd:∀t,t<P.T→P.nd t<P.NN
def bump (σ:Ar)(p:Int):Ar:=σ.op 5 p true (wrap64 (σ.get p+1))
def entR (m:Int):Int:=if m=3 then 2 else 1
def rword (P:Rp)(σ:Ar)(t:Nat)(pc:Int):Ar:=
 if pc=11 then bump σ (P.f+2*(P.nd t:Int)+1)else if pc=entR P.m then bump σ (P.f+2*(P.nd t:Int)+0)else σ.op 1 P.fl false 0
def rpc (P:Rp)(pc:Int):Int:=if pc=11 then 0 else rnext P.m pc
def rstp (P:Rp)(x:Ar×List Sp)(t:Int):Bool×(Ar×List Sp):=
 (decide (rpc P (spOf x.2 t).pc=10)||decide (rpc P (spOf x.2 t).pc=0),(rword P x.1 t.toNat (spOf x.2 t).pc,x.2.set t.toNat {spOf x.2 t with pc:=rpc P (spOf x.2 t).pc}))
def rask (x:Ar×List Sp)(t:Int):Bool×(Ar×List Sp):=if(spOf x.2 t).pc=0 then(true,(x.1,x.2.set t.toNat ⟨1,1,0,0⟩))else(false,x)
def rlv (x:Ar×List Sp)(t:Int):Bool×(Ar×List Sp):=if(spOf x.2 t).pc=10 then(true,(x.1,x.2.set t.toNat {spOf x.2 t with pc:=11}))else(false,x)
def ldR (P:Rp):LD (Ar×List Sp)where
 N:=P.T
 sh:=true
 st x t:=gst (spOf x.2 t)
 rd x t:=rdS 11 (spOf x.2 t)
 ask x t _:=rask x t
 leave x t:=rlv x t
 step x t:=rstp P x t
 cn x t:=if(spOf x.2 t).pc=10 then 1 else 0
structure OkR (P:Rp)(x:Ar×List Sp)(m:Nat):Prop where
 len:x.2.length=P.T
 pcs:∀t,(spOf x.2 t).pc=0∨(1≤(spOf x.2 t).pc∧(spOf x.2 t).pc≤lastR P.m)∨(spOf x.2 t).pc=10∨(spOf x.2 t).pc=11
 rd:∀t,(spOf x.2 t).pc≠0→(spOf x.2 t).a=1
 fl0:x.1.get P.fl=0
 hl:x.1.t≤x.1.ws.length
 ops:x.1.ops≤m
theorem rdS_11 {s:Sp}(h:s.pc≠0→s.a=1):rdS 11 s=decide (s.pc≠0):=by
 unfold rdS;rw[show shK 11=true by decide,Bool.and_true];by_cases h0:s.pc=0
 ·simp[h0]
 ·simp[h0,h h0]
section
variable {P:Rp}(O:RpOk P){x:Ar×List Sp}{m:Nat}(h:OkR P x m)
include h
theorem OkR.up:OkR P x (m+1):=⟨h.len,h.pcs,h.rd,h.fl0,h.hl,by have:=h.ops;omega⟩
theorem OkR.put {t:Int}(ht:0≤t∧t<x.2.length)(s:Sp)(hp:s.pc=0∨(1≤s.pc∧s.pc≤lastR P.m)∨s.pc=10∨s.pc=11)(ha:s.pc≠0→s.a=1):OkR P (x.1,x.2.set t.toNat s) m:=by
 refine⟨List.length_set.trans h.len,fun u=> ?_,fun u=> ?_,h.fl0,h.hl,h.ops⟩
 ·rw[show spOf (x.2.set t.toNat s) u=_ from spOf_at ht s u]
  by_cases e:u=t
  ·rw[if_pos e];exact hp
  ·rw[if_neg e];exact h.pcs u
 ·rw[show spOf (x.2.set t.toNat s) u=_ from spOf_at ht s u]
  by_cases e:u=t
  ·rw[if_pos e];exact ha
  ·rw[if_neg e];exact h.rd u
include O
theorem OkR.word {t:Nat}(ht:t<P.T)(pc:Int):OkR P (rword P x.1 t pc,x.2) (m+1):=by
 have hn:=O.nd t ht;have hf:=O.fl
 have key:∀kd p v wr,(wr=true→p≠P.fl)→OkR P (x.1.op kd p wr v,x.2) (m+1):=fun kd p v wr hp=>by
  refine⟨h.len,h.pcs,h.rd,?_,?_,?_⟩
  ·show(x.1.op kd p wr v).get P.fl=0
   rw[get_op x.1 h.hl,if_neg (fun hx=>hp hx.2.1 hx.2.2.symm)];exact h.fl0
  ·show(x.1.op kd p wr v).t≤(x.1.op kd p wr v).ws.length
   rw[op_t,op_len];exact h.hl
  ·show(x.1.op kd p wr v).ops≤m+1
   rw[op_ops];have:=h.ops;split<;>omega
 unfold rword bump;split
 ·exact key _ _ _ _ (fun _=>by omega)
 ·split
  ·exact key _ _ _ _ (fun _=>by omega)
  ·exact key _ _ _ _ (fun e=>by cases e)
theorem OkR.step {t:Int}(ht:0≤t∧t<P.T)(hs:gst (spOf x.2 t)=1∨gst (spOf x.2 t)=3):OkR P (rstp P x t).2 (m+1):=by
 have hl:=lastR_in P.m;have hp:=h.pcs t;have hr:=h.rd t;have h1:=OkR.word O h (t:=t.toNat) (by omega) (spOf x.2 t).pc;have hne:(spOf x.2 t).pc≠0:=fun e=>by unfold gst at hs;rw[if_pos e]at hs;omega
 refine OkR.put (x:=(rword P x.1 t.toNat (spOf x.2 t).pc,x.2)) h1 (by show 0≤t∧t<x.2.length;rw[h.len];exact ht) _ ?_ (fun _=>hr hne);show rpc P (spOf x.2 t).pc=0∨(1≤rpc P (spOf x.2 t).pc∧rpc P (spOf x.2 t).pc≤lastR P.m)∨rpc P (spOf x.2 t).pc=10∨rpc P (spOf x.2 t).pc=11;have h10:(spOf x.2 t).pc≠10:=fun e=>by unfold gst at hs;rw[if_neg (by omega),if_neg (by omega),if_pos e]at hs;omega
 unfold rpc rnext;split
 ·exact .inl rfl
 ·split
  ·exact .inr (.inr (.inl rfl))
  ·right;left;omega
omit O
theorem OkR.asks {t:Int}(ht:0≤t∧t<P.T):OkR P (rask x t).2 (m+1):=by
 have hl:=lastR_in P.m;unfold rask;split
 ·exact OkR.up (h.put (by rw[h.len];exact ht) ⟨1,1,0,0⟩ (.inr (.inl ⟨by decide,by show(1:Int)≤_;omega⟩)) (fun _=>rfl))
 ·exact h.up
theorem OkR.leaves {t:Int}(ht:0≤t∧t<P.T):OkR P (rlv x t).2 (m+1):=by
 unfold rlv;split
 ·rename_i hc
  exact OkR.up (h.put (by rw[h.len];exact ht) _ (.inr (.inr (.inr rfl))) (fun _=>h.rd t (by omega)))
 ·exact h.up
include O
theorem wact_r (t w:Int)(hw:w≠1):(wact (ldR P) x t w).1=(ract P.m x.2 t w).1∧(wact (ldR P) x t w).2.2=(ract P.m x.2 t w).2∧OkR P (wact (ldR P) x t w).2 (m+1):=by
 unfold wact ract;rw[h.len];by_cases ht:t<0∨(P.T:Int)≤t
 ·rw[if_pos (show t<0∨((ldR P).N:Int)≤t from ht),if_pos ht]
  exact⟨rfl,rfl,h.up⟩
 rw[if_neg (show¬(t<0∨((ldR P).N:Int)≤t) from ht),if_neg ht];have ht2:0≤t∧t<(P.T:Int):=by omega
 have hp:=h.pcs t;have hl:=lastR_in P.m;have hrd:(ldR P).rd x t=decide ((spOf x.2 t).pc≠0):=rdS_11 (h.rd t);by_cases h0:w=0
 ·rw[if_pos h0,if_pos h0]
  unfold wstep;rw[hrd];by_cases h1:gst (spOf x.2 t)=1
  ·have hc:=gst_one h1 (by omega)
   have hok:=OkR.step O h ht2 (.inl h1);have hne:decide ((spOf x.2 t).pc≠0)=true:=decide_eq_true (by omega);have e11:¬(spOf x.2 t).pc=11:=by omega
   have hpc:rpc P (spOf x.2 t).pc=rnext P.m (spOf x.2 t).pc:=by unfold rpc;rw[if_neg e11]
   have hn0:rnext P.m (spOf x.2 t).pc≠0:=by unfold rnext;split<;>omega
   rw[if_pos (show(ldR P).st x t=1 from h1),if_pos h1,hne];by_cases hn:rnext P.m (spOf x.2 t).pc=10
   ·have hb:((ldR P).step x t).1=true:=by
     show(decide (rpc P (spOf x.2 t).pc=10)||decide (rpc P (spOf x.2 t).pc=0))=true;rw[hpc,decide_eq_true hn];rfl
    have hcn:(ldR P).cn ((ldR P).step x t).2 t=1:=by
     show(if(spOf (x.2.set t.toNat {spOf x.2 t with pc:=rpc P (spOf x.2 t).pc}) t).pc=10 then(1:Int)else 0)=1;rw[spOf_at (by rw[h.len];exact ht2),if_pos rfl,if_pos (hpc.trans hn)]
    rw[if_pos hb,if_pos hn,hcn];exact⟨rfl,by show x.2.set t.toNat {spOf x.2 t with pc:=rpc P (spOf x.2 t).pc}=_;rw[hpc],hok⟩
   ·have hb:((ldR P).step x t).1=false:=by
     show(decide (rpc P (spOf x.2 t).pc=10)||decide (rpc P (spOf x.2 t).pc=0))=false;rw[hpc,decide_eq_false hn,decide_eq_false hn0];rfl
    rw[hb,if_neg (by decide),if_neg hn];exact⟨rfl,by show x.2.set t.toNat {spOf x.2 t with pc:=rpc P (spOf x.2 t).pc}=_;rw[hpc],hok⟩
  ·rw[if_neg (show¬(ldR P).st x t=1 from h1),if_neg h1]
   by_cases h3:gst (spOf x.2 t)=3
   ·have hc:=gst_three h3
    have hok:=OkR.step O h ht2 (.inr h3);have hne:decide ((spOf x.2 t).pc≠0)=true:=decide_eq_true (by omega);have e11:(spOf x.2 t).pc=11:=by omega
    have hpc:rpc P (spOf x.2 t).pc=0:=by unfold rpc;rw[if_pos e11]
    have hb:((ldR P).step x t).1=true:=by
     show(decide (rpc P (spOf x.2 t).pc=10)||decide (rpc P (spOf x.2 t).pc=0))=true;rw[hpc];rfl
    rw[if_pos (show(ldR P).st x t=3 from h3),if_pos h3,if_pos hb,hne];exact⟨rfl,by show x.2.set t.toNat {spOf x.2 t with pc:=rpc P (spOf x.2 t).pc}=_;rw[hpc],hok⟩
   ·rw[if_neg (show¬(ldR P).st x t=3 from h3),if_neg h3]
    refine⟨?_,rfl,h.up⟩;show((0:Int),t,decide ((spOf x.2 t).pc≠0),(0:Int))=(0,t,decide (gst (spOf x.2 t)=2),0)
    rw[show decide ((spOf x.2 t).pc≠0)=decide (gst (spOf x.2 t)=2) from decide_eq_decide.2 (by
     unfold gst at h1 h3⊢;by_cases e0:(spOf x.2 t).pc=0
     ·rw[if_pos e0];omega
     ·rw[if_neg e0]at h1 h3⊢
      by_cases e1:(spOf x.2 t).pc<10
      ·rw[if_pos e1]at h1;exact absurd rfl h1
      ·rw[if_neg e1]at h1 h3⊢
       by_cases e2:(spOf x.2 t).pc=10
       ·rw[if_pos e2];omega
       ·rw[if_neg e2]at h3;exact absurd rfl h3)]
 rw[if_neg h0,if_neg h0,if_neg hw];by_cases h3:w=3
 ·rw[if_pos h3,if_pos h3]
  have hok:=OkR.asks h ht2;unfold wask;rw[if_neg (show¬(true&& !(ldR P).sh)=true by show¬(true&& !true)=true;decide),hrd];show((if(rask x t).1 then((1:Int),t,true,(0:Int))else(5,t,decide ((spOf x.2 t).pc≠0),0))=_)∧(rask x t).2.2=_∧OkR P (rask x t).2 (m+1);unfold rask at hok⊢;by_cases hc:(spOf x.2 t).pc=0
  ·rw[if_pos hc]at hok
   rw[if_pos hc,if_pos hc];exact⟨rfl,rfl,hok⟩
  ·rw[if_neg hc]at hok
   rw[if_neg hc,if_neg hc,decide_eq_true hc];exact⟨rfl,rfl,hok⟩
 rw[if_neg h3,if_neg h3];have hok:=OkR.leaves h ht2;by_cases h2:w=2
 ·rw[if_pos h2,if_neg (by omega)]
  unfold wleave;rw[hrd];by_cases hc:(spOf x.2 t).pc=0
  ·have e:decide ((spOf x.2 t).pc≠0)=false:=decide_eq_false (fun k=>k hc)
   rw[e,if_pos rfl];have e2:rlv x t=(false,x):=by unfold rlv;rw[if_neg (by omega)]
   show((if(rlv x t).1 then((3:Int),t,false,(0:Int))else(5,t,false,0))=_)∧(rlv x t).2.2=_∧OkR P (rlv x t).2 (m+1);rw[e2];exact⟨rfl,rfl,h.up⟩
  ·rw[decide_eq_true hc,if_neg (by decide)]
   exact⟨rfl,rfl,h.up⟩
 rw[if_neg h2];by_cases h4:w=4
 ·rw[if_pos h4,if_pos h4]
  unfold wleave;rw[hrd];by_cases hc:(spOf x.2 t).pc=0
  ·have e:decide ((spOf x.2 t).pc≠0)=false:=decide_eq_false (fun k=>k hc)
   rw[e,if_neg (by decide),if_neg (by omega)];exact⟨rfl,rfl,h.up⟩
  ·rw[decide_eq_true hc,if_pos rfl]
   show((if(rlv x t).1 then((3:Int),t,true,(0:Int))else(5,t,true,0))=_)∧(rlv x t).2.2=_∧OkR P (rlv x t).2 (m+1);unfold rlv at hok⊢;by_cases h10:(spOf x.2 t).pc=10
   ·rw[if_pos h10]at hok
    rw[if_pos h10,if_pos h10];exact⟨rfl,rfl,hok⟩
   ·rw[if_neg h10]at hok
    rw[if_neg h10,if_neg h10];exact⟨rfl,rfl,hok⟩
 rw[if_neg h4,if_neg h4,hrd];exact⟨rfl,rfl,h.up⟩
end
def allRd (ps:List Pl):Prop:=∀p∈ps,p.rd=true
theorem want_not1 {ps:List Pl}(h:allRd ps)(t:Int)(x:Mi)(hx:0≤x.as_)(st:Int):(wantS (planOf ps t) x st).1≠1:=by
 have key:(planOf ps t).rd=true∨(planOf ps t).times=0:=by
  unfold planOf;split
  ·rename_i hr
   left;refine h _ ?_;rw[List.getD_eq_getElem?_getD,List.getElem?_eq_getElem (by omega)];exact List.getElem_mem _
  ·exact .inr rfl
 unfold wantS;generalize(if st=x.ws then x.pk else 0)=q;unfold wantT;split
 ·rename_i hc
  rcases key with k|k
  ·show lockW (planOf ps t).rd≠1
   rw[k];decide
  ·omega
 ·split
  ·show unlockW (planOf ps t).rd≠1
   unfold unlockW;split<;>decide
  ·show(0:Int)≠1
   decide
theorem want_as {pl:Pl}{x:Mi}(hx:0≤x.as_)(st:Int):0≤(wantS pl x st).2.as_:=by
 unfold wantS;generalize(if st=x.ws then x.pk else 0)=q;unfold wantT;split
 ·show 0≤x.as_+1
  omega
 ·split<;>exact hx
theorem run_r {P:Rp}(O:RpOk P){ps:List Pl}(ha:allRd ps){m:Nat}:∀(ks:List Int) (r:Rq (Ar×List Sp)) (r':Rq (List Sp)) (k:Nat),OkR P r.x (m+k)→r.x.2=r'.x→r.m=r'.m→r.out=r'.out→(∀t,0≤(r.m t).as_)→
 OkR P (ks.foldl (rqStep (ldR P).st (wact (ldR P)) ps) r).x (m+k+ks.length)∧(ks.foldl (rqStep (ldR P).st (wact (ldR P)) ps) r).out=(ks.foldl (rqStep (fun sp t=>gst (spOf sp t)) (ract P.m) ps) r').out:=by
 intro ks
 induction ks with
 |nil=>intro r r' k h _ _ h3 _;exact⟨h,h3⟩
 |cons t ks ih=>
  intro r r' k h h1 h2 h3 h4;obtain⟨x,mi,out⟩:=r;obtain⟨sp,mi',out'⟩:=r';simp only at h h1 h2 h3 h4;subst h1 h2 h3;have hst:(ldR P).st x t=gst (spOf x.2 t):=rfl;obtain⟨e1,e2,e3⟩:=wact_r O h t (wantS (planOf ps t) (mi t) (gst (spOf x.2 t))).1 (want_not1 ha t (mi t) (h4 t) _);rw[List.foldl_cons,List.foldl_cons]
  have:=ih (rqStep (ldR P).st (wact (ldR P)) ps ⟨x,mi,out⟩ t) (rqStep (fun sp t=>gst (spOf sp t)) (ract P.m) ps ⟨x.2,mi,out⟩ t) (k+1) e3 e2 rfl (by
   show out++ [eOf (wact (ldR P) x t _).1]=out++ [eOf (ract P.m x.2 t _).1];rw[←e1];rfl) (fun u=>by
   show 0≤(if u=t then(wantS (planOf ps t) (mi t) ((ldR P).st x t)).2 else mi u).as_;split
   ·exact want_as (h4 t) _
   ·exact h4 u)
  rw[List.length_cons];rw[show m+k+(ks.length+1)=m+(k+1)+ks.length by omega];exact this
end Go.Proofs.YtfmiioddhpkdkaaGreat.Wr
namespace Go.Proofs.YtfmiioddhpkdkaaGreat.Rw
open Go.RowKit Ara Lok Ga Lk Wr
structure Rc where
 gk:Nat
 gt:Nat
 gg:Nat
 gd:Nat
 gl:Nat
 hs:Nat
 ga:Nat
 ha:Nat
 gn:Nat
 tA:Option Addr
 tc:Nat
 cn:Nat
def rdCells (c:Rc)(P:Rp):Array Value:= #[.pointer (some ⟨c.ga,0,none⟩),.pointer (some ⟨c.gt,0,none⟩),.pointer (some ⟨c.gg,0,none⟩),.pointer (some ⟨c.gd,0,none⟩),.int .i64 P.fl,.pointer (some ⟨c.gl,0,none⟩),.slice (some ⟨c.hs,0,none⟩) P.T P.T]
structure RdA (Ty:TypeId)(L:Nat)(W:World)(c:Rc)(P:Rp)(x:Ar×List Sp):Prop where
 lb:W.heap[c.gk]? =some (.cells (rdCells c P) Ty (0,0))
 gb:Gg.GgB W c.gg c.ga P.f (P.NN:Int)
 t1:W.cell? ⟨c.gt,1,none⟩=some (.slice c.tA P.T c.tc)
 t2:W.cell? ⟨c.gt,2,none⟩=some (.int .u32 1)
 t6:W.cell? ⟨c.gt,6,none⟩=some (.slice (some ⟨c.gn,0,none⟩) P.T c.cn)
 rn:∀k,k<P.T→W.cell? ⟨c.gn,k,none⟩=some (.int .i64 (P.nd k:Int))
 ar:ArAt W c.ga c.ha x.1
 sp:SpAt W c.hs x.2
 len:x.2.length=P.T
 ne:((c.gk≠c.ga∧c.gk≠c.ha∧c.gk≠c.hs)∧(c.gg≠c.ga∧c.gg≠c.ha∧c.gg≠c.hs))∧((c.gt≠c.ga∧c.gt≠c.ha∧c.gt≠c.hs)∧(c.gn≠c.ga∧c.gn≠c.ha∧c.gn≠c.hs))∧c.ga≠c.hs∧c.ha≠c.hs
 lo:(c.gk<L∧c.gg<L∧c.gt<L∧c.gn<L)∧c.ga<L∧c.ha<L∧c.hs<L
 sz:L≤W.heap.size
section
variable {Ty:TypeId}{L:Nat}{W W':World}{c:Rc}{P:Rp}{x:Ar×List Sp}(K:RdA Ty L W c P x)
include K
theorem RdA.keep (hb:Below L W W'):RdA Ty L W' c P x:=by
 obtain⟨⟨l1,l2,l3,l4⟩,l5,l6,l7⟩:=K.lo
 have cm:∀(g i:Nat),g<L→W'.cell? ⟨g,i,none⟩=W.cell? ⟨g,i,none⟩:=fun g i h1=>by
  unfold World.cell?;rw[hb.block g h1]
 exact⟨(hb.block _ l1).trans K.lb,(hb.block _ l2).trans K.gb,(cm _ _ l3).trans K.t1,(cm _ _ l3).trans K.t2,(cm _ _ l3).trans K.t6,fun k hk=>(cm _ _ l4).trans (K.rn k hk),K.ar.upd (S:=[]) (Upd.of_below hb) l5 l6 (by simp) (by simp),K.sp.of_blk (hb.block _ l7),K.len,K.ne,K.lo,Nat.le_trans K.sz hb.size⟩
theorem RdA.same (hb:Below W.heap.size W W'):RdA Ty L W' c P x:=K.keep (hb.mono K.sz)
theorem RdA.turn {σ':Ar}{S':List Sp}(hm:Mod [c.ga,c.ha,c.hs] W W')(ha:ArAt W' c.ga c.ha σ')(hs:SpAt W' c.hs S')(hl:S'.length=P.T):RdA Ty L W' c P (σ',S'):=by
 obtain⟨⟨⟨a1,a2,a3⟩,b1,b2,b3⟩,⟨⟨d1,d2,d3⟩,e1,e2,e3⟩,f1,f2⟩:=K.ne;obtain⟨⟨l1,l2,l3,l4⟩,l5,l6,l7⟩:=K.lo;have hz:=K.sz
 have cm:∀(g i:Nat),g<L→g∉ [c.ga,c.ha,c.hs]→W'.cell? ⟨g,i,none⟩=W.cell? ⟨g,i,none⟩:=fun g i h1 h2=>by
  unfold World.cell?;rw[hm.block g (by omega) h2]
 have nt:c.gt∉ [c.ga,c.ha,c.hs]:=by simp;omega
 have nn:c.gn∉ [c.ga,c.ha,c.hs]:=by simp;omega
 exact⟨hm.blk K.lb (by simp;omega),hm.blk K.gb (by simp;omega),(cm _ _ l3 nt).trans K.t1,(cm _ _ l3 nt).trans K.t2,(cm _ _ l3 nt).trans K.t6,fun k hk=>(cm _ _ l4 nn).trans (K.rn k hk),ha,hs,hl,K.ne,K.lo,Nat.le_trans hz hm.size⟩
theorem RdA.word {σ':Ar}(ha:ArAt W' c.ga c.ha σ')(hm:Mod [c.ga,c.ha] W W'):RdA Ty L W' c P (σ',x.2)∧Mod [c.ga,c.ha,c.hs] W W':=by
 have h3:Mod [c.ga,c.ha,c.hs] W W':=⟨hm.os,hm.tape,hm.output,hm.size,fun k hk hn=>hm.block k hk (fun h=>hn (by simp at h⊢;omega))⟩;obtain⟨_,_,f1,f2⟩:=K.ne;exact⟨K.turn h3 ha (K.sp.mod hm (by simp;omega)) K.len,h3⟩
theorem RdA.spot {k:Nat}(hk:k<P.T)(j:Nat)(hj:j<4)(v:Value)(s':Sp)(hv:decSp s'=(decSp (spOf x.2 (k:Int))).set j v):RdA Ty L (W.setCell ⟨c.hs,k*4+j,none⟩ v) c P (x.1,x.2.set k s')∧Mod [c.ga,c.ha,c.hs] W (W.setCell ⟨c.hs,k*4+j,none⟩ v):=by
 have hm:Mod [c.hs] W (W.setCell ⟨c.hs,k*4+j,none⟩ v):=(Mod.refl _ _).setCell (by simp) _;have h3:Mod [c.ga,c.ha,c.hs] W (W.setCell ⟨c.hs,k*4+j,none⟩ v):=(Mod.refl _ _).setCell (by simp) _;obtain⟨_,_,f1,f2⟩:=K.ne;have hl:k<x.2.length:=by rw[K.len];exact hk
 exact⟨K.turn h3 (K.ar.mod hm (by simp;omega) (by simp;omega)) (K.sp.set k hl j hj v s' (by rw[hv,spOf_in hl])) (by rw[List.length_set];exact K.len),h3⟩
theorem RdA.cells:(W.cell? ⟨c.gk,0,none⟩=some (.pointer (some ⟨c.ga,0,none⟩))∧W.cell? ⟨c.gk,1,none⟩=some (.pointer (some ⟨c.gt,0,none⟩))∧W.cell? ⟨c.gk,2,none⟩=some (.pointer (some ⟨c.gg,0,none⟩)))∧W.cell? ⟨c.gk,4,none⟩=some (.int .i64 P.fl)∧W.cell? ⟨c.gk,6,none⟩=some (.slice (some ⟨c.hs,0,none⟩) P.T P.T):=
 ⟨⟨blk_cell K.lb 0 (by simp[rdCells]),blk_cell K.lb 1 (by simp[rdCells]),blk_cell K.lb 2 (by simp[rdCells])⟩,blk_cell K.lb 4 (by simp[rdCells]),blk_cell K.lb 6 (by simp[rdCells])⟩
theorem RdA.spots {k:Nat}(hk:k<P.T):W.cell? ⟨c.hs,k*4,none⟩=some (.int .i64 (spOf x.2 (k:Int)).pc)∧W.cell? ⟨c.hs,k*4+1,none⟩=some (.int .i64 (spOf x.2 (k:Int)).a)∧W.cell? ⟨c.hs,k*4+2,none⟩=some (.int .i64 (spOf x.2 (k:Int)).b)∧W.cell? ⟨c.hs,k*4+3,none⟩=some (.int .i64 (spOf x.2 (k:Int)).c)∧∀j,W.frozen? ⟨c.hs,j,none⟩=false:=by
 have hl:k<x.2.length:=by rw[K.len];exact hk
 rw[spOf_in hl];exact K.sp.cells k hl
theorem RdA.node {k:Nat}(hk:k<P.T):Calls Tryz.prog 89 #[.pointer (some ⟨c.gt,0,none⟩),.int .i64 (k:Int)] W fun e w'=>e= .returned (.int .i64 (P.nd k:Int))∧w'=W:=
 Pa.node_in K.t2 _ P.T c.tc k c.gn c.cn _ hk K.t1 K.t6 (K.rn k hk)
theorem RdA.out {i:Int}(hi:i<0∨(P.T:Int)≤i):spOf x.2 i=sp0:=spOf_out (by have:=K.len;omega)
theorem RdA.drew:RdA Ty L W.drew c P x:=K.same (Below.drew (Below.refl _ _))
end
end Go.Proofs.YtfmiioddhpkdkaaGreat.Rw
