/- Merged texts: Wq4, WrW, TpB, WrA, WrX. -/
import Derived.Test.YtfmiioddhpkdkaaGreatWz33
import Derived.Deep.RegionHeld3
import Derived.RegionTactic
import Derived.BigRegion
set_option linter.unusedVariables false
set_option linter.unusedSimpArgs false
set_option maxRecDepth 100000
set_option maxHeartbeats 8000000
namespace Go.Proofs.YtfmiioddhpkdkaaGreat.Wq
open Go.RowKit Ara Lok Wn Wf Wo
open Go.Proofs.YtfmiioddhpkdkaaGreat.Sp (E)
theorem frame80 {a:Act}(h:a.tmps.size=80)(hd:a.defers=[]):∃u:Nat→Value,a={tmps:= #[u 0,u 1,u 2,u 3,u 4,u 5,u 6,u 7,u 8,u 9,u 10,u 11,u 12,u 13,u 14,u 15,u 16,u 17,u 18,u 19,u 20,u 21,u 22,u 23,u 24,u 25,u 26,u 27,u 28,u 29,u 30,u 31,u 32,u 33,u 34,u 35,u 36,u 37,u 38,u 39,u 40,u 41,u 42,u 43,u 44,u 45,u 46,u 47,u 48,u 49,u 50,u 51,u 52,u 53,u 54,u 55,u 56,u 57,u 58,u 59,u 60,u 61,u 62,u 63,u 64,u 65,u 66,u 67,u 68,u 69,u 70,u 71,u 72,u 73,u 74,u 75,u 76,u 77,u 78,u 79],defers:=[]}∧∀n,a.tmps.getD n undef=u n:=by
 refine⟨fun n=>a.tmps.getD n undef,?_,fun _=>rfl⟩;have h1:=arr_lit a.tmps h;cases a with
 |mk t d=>
  simp only at hd h1;subst hd;congr 1
def vclo (o:Option Nat):Value:=match o with
 |none=> .nilFunc
 |some B=>clo B
section
variable {X:Type}(gw:Nat)(Gt:Nat→World→X→Prop)(st:X→Int→Int)(rd:X→Int→Bool)(act:X→Int→Int→Ev4×X)(may:Int→Prop)(S:List Nat)
def RJ (ps:List Pl)(Aq:Option Addr)(cp:Nat)(l:List Int)(A:Option Addr)(cap:Nat)(x0:X)(w:World)(a:Act)(W:World):Prop:=
 a.tmps.size=80∧a.defers=[]∧a.tmps.getD 0 undef= .pointer (some ⟨gw,0,none⟩)∧a.tmps.getD 1 undef= .slice Aq ps.length cp∧a.tmps.getD 7 undef= .map (some w.heap.size)∧a.tmps.getD 17 undef= .slice A l.length cap∧a.tmps.getD 18 undef= .int .i64 (l.length:Int)∧∃(k:Nat) (v:Value) (F:Int→Option Nat),a.tmps.getD 8 undef=v∧a.tmps.getD 19 undef= .int .i64 (k:Int)∧k≤l.length∧RW Gt S ps k v F (rqL st act ps x0 (l.take k)) k w W
def RC (ps:List Pl)(Aq:Option Addr)(cp:Nat)(l:List Int)(A:Option Addr)(cap:Nat)(k:Nat)(t:Int)(v:Value)(r:Rq X)(w:World)(a:Act)(W:World):Prop:=
 a.tmps.size=80∧a.defers=[]∧a.tmps.getD 0 undef= .pointer (some ⟨gw,0,none⟩)∧a.tmps.getD 1 undef= .slice Aq ps.length cp∧a.tmps.getD 7 undef= .map (some w.heap.size)∧a.tmps.getD 8 undef=v∧a.tmps.getD 10 undef= .int .i64 t∧a.tmps.getD 17 undef= .slice A l.length cap∧a.tmps.getD 18 undef= .int .i64 (l.length:Int)∧a.tmps.getD 19 undef= .int .i64 (k:Int)∧∃(F:Int→Option Nat) (B:Nat),a.tmps.getD 11 undef=clo B∧F t=some B∧RW Gt S ps k v F r (k+1) w W
def R6 (ps:List Pl)(Aq:Option Addr)(cp:Nat)(l:List Int)(A:Option Addr)(cap:Nat)(k:Nat)(t:Int)(v:Value)(o:Option Nat)(w W0:World)(a:Act)(W:World):Prop:=
 a.tmps.size=80∧a.defers=[]∧a.tmps.getD 0 undef= .pointer (some ⟨gw,0,none⟩)∧a.tmps.getD 1 undef= .slice Aq ps.length cp∧a.tmps.getD 7 undef= .map (some w.heap.size)∧a.tmps.getD 8 undef=v∧a.tmps.getD 10 undef= .int .i64 t∧a.tmps.getD 11 undef=vclo o∧a.tmps.getD 12 undef= .bool o.isSome∧a.tmps.getD 17 undef= .slice A l.length cap∧a.tmps.getD 18 undef= .int .i64 (l.length:Int)∧a.tmps.getD 19 undef= .int .i64 (k:Int)∧W=W0
theorem run_any (w:World)(hG:GIW gw X Gt st rd act may S w.heap.size)(ps:List Pl)(hmay:∀t (x:Mi) s,0≤x.as_→may (wantS (planOf ps t) x s).1)(Aq:Option Addr)(cp:Nat)(hp:ps.length≤1000)(hsp:∀W,Mod S w W→Sl W w.heap.size Aq (ps.flatMap decPl))(l:List Int)(A:Option Addr)(cap:Nat)(hl:l.length≤1000)(hwf:∀t∈l,isI t)(hsl:∀W,Mod S w W→Sl W w.heap.size A (l.flatMap decI))(x0:X)(hx0:Gt 0 w x0):
 Calls Tryz.prog 9 #[.pointer (some ⟨gw,0,none⟩),.slice Aq ps.length cp,.slice A l.length cap] w fun e w'=>∃B c,e= .returned (.slice B l.length c)∧w'.ownsRow (w.heap.size+1) 44 4 (.slice B l.length c) l.length ((rqL st act ps x0 l).out.flatMap Sp.dE)∧Gt l.length w' (rqL st act ps x0 l).x∧Mod S w w':=by
 have HS:=Lib.hid hsl;have HP:=Lib.hid hsp;have HWF:=Lib.hid hwf;have HGI:=Lib.hid hG;have HX:=Lib.hid hx0;have HMY:=Lib.hid hmay;have hmm:= @run_makeMap Tryz.prog;clear hsl hsp hwf hG hx0 hmay;go_enter Tryz.func9,Tryz.ntmps9;go_wp2_with fail;refine wp_loop (RJ gw Gt st act S ps Aq cp l A cap x0 w) (fun a' _=>l.length-(intOf (a'.tmps.getD 19 undef)).toNat) ?_ ?_
 ·exact⟨rfl,rfl,rfl,rfl,rfl,rfl,rfl,0,_,fun _=>none,rfl,rfl,Nat.zero_le _,World.ownsRow_nil _ _ _ _,FM.made w,⟨fun _ _ h=>(by cases h),fun _ _=>rfl,fun _ _ _ _ _ h=>(by cases h),fun _=>(by simp[rqL,mi0])⟩,HGI.out.keep _ _ _ _ HX.out (below_new _ _),Mod.of_below (below_new _ _),by simp⟩
 ·rintro a' W ⟨hsz,hdf,s0,s1,s7,s17,s18,k,v,F,s8,s19,hk,hR⟩
  obtain⟨u,rfl,hu⟩:=frame80 hsz hdf;rw[hu]at s0 s1 s7 s17 s18 s8 s19;simp only[s0,s1,s7,s17,s18,s8,s19];clear hsz hdf s0 s1 s7 s17 s18 s8 s19 hu;have HR:=Lib.hid hR;clear hR;by_cases hlt:k<l.length
  ·have hst:=rqL_take st act ps x0 l hlt
   have ht:=HWF.out _ (List.getElem_mem hlt);obtain⟨b,off,rfl,hbb,hcell⟩:=Sl_at (k:=1) (fun _=>rfl) (by omega) (HS.out _ HR.out.mod) (by omega);have c0:=hcell k hlt 0 (by omega);simp only[decI,List.getElem?_cons_zero,Nat.mul_one,Nat.add_zero]at c0;have HST:=Lib.hid hst;have HT:=Lib.hid ht;have i1:(k:Int)<(l.length:Int):=by omega
   clear hcell hst ht HX;generalize l[k]=t at*;generalize rqL st act ps x0 (l.take k)=r at*;go_upto_region 6 with fail;refine wp_cut (R6 gw ps Aq cp l (some ⟨b,off,none⟩) cap k t v (F t) w W) ?_ ?_
   ·rintro a' W0 ⟨hsz,hdf,s0,s1,s7,s8,s10,s11,s12,s17,s18,s19,hW0⟩
    obtain rfl:=hW0;obtain⟨u,rfl,hu⟩:=frame80 hsz hdf;rw[hu]at s0 s1 s7 s8 s10 s11 s12 s17 s18 s19;simp only[s0,s1,s7,s8,s10,s11,s12,s17,s18,s19];clear hsz hdf s0 s1 s7 s8 s10 s11 s12 s17 s18 s19 hu;rename_i hK0;refine hK0 _ _ ?_;refine wp_seq_k fun K1 hK1=> ?_;refine wp_cut (RC gw Gt S ps Aq cp l (some ⟨b,off,none⟩) cap k t v r w) ?_ ?_
    ·rintro a' W2 ⟨hsz,hdf,s0,s1,s7,s8,s10,s17,s18,s19,F2,B,s11,hF,hR2⟩
     refine hK1 _ _ ?_;obtain⟨u,rfl,hu⟩:=frame80 hsz hdf;rw[hu]at s0 s1 s7 s8 s10 s17 s18 s19 s11;simp only[s0,s1,s7,s8,s10,s17,s18,s19,s11];clear hsz hdf s0 s1 s7 s8 s10 s17 s18 s19 s11 hu;have HR2:=Lib.hid hR2;have HSTA:=Lib.hid (HGI.out.state k _ _ t hR2.gt);clear hR2;go_wp2_with fail;refine HSTA.out.mono ?_;rintro e w3 ⟨rfl,hb3⟩;have HR3:=Lib.hid (HR2.out.same HGI.out hb3);have hcl3:=HR3.out.clos.at_ t B hF;have hnum:=HR3.out.clos.num t;have HCA:=Lib.hid (clo_any B (planOf ps t) (r.m t) w3 hcl3.2 (by omega) (by omega) (st r.x t));have hma:=HMY.out t (r.m t) (st r.x t) hnum.2.1;have HMA:=Lib.hid hma;clear hb3 HR2 HSTA hcl3 hnum hma;unfold clo;go_wp2_with fail;refine HCA.out.mono ?_;rintro e w4 ⟨rfl,hc4,hm4⟩;have HR4:=Lib.hid (HR3.out.call HGI.out hF (st r.x t) hc4 hm4);have HDO:=Lib.hid (HGI.out.doit k _ _ t _ (by omega) HMA.out HR4.out.gt);clear HR3 hc4 hm4 HCA HMA;have HST2:=HST.out;unfold rqStep at HST2;replace HST2:=Lib.hid HST2;generalize(wantS (planOf ps t) (r.m t) (st r.x t)).1=wn at*;go_wp2_with fail;refine HDO.out.mono ?_;rintro e w5 ⟨rfl,hg5,hm5⟩;have HR5:=Lib.hid (HR4.out.did HGI.out.lt hg5 hm5);clear HR4 hg5 hm5 HDO;generalize act r.x t wn=ax at*;obtain⟨⟨ek,et,er,ec⟩,x2⟩:=ax;simp only[wev]at HST2 HR5⊢;have hzz:=HR5.out.sz;go_wp2_with(at_builtin;refine wpList_append1 (.tmp 68) (.tmp 76) 35 44 _ 4 32 rfl rfl Tryz.underlying35 infoE rfl (by decide) (w.heap.size+1) _ _ _ _ _ _ _ _ HR5.out.own rfl rfl ?cg1 rfl ?d1 ?d2 ?d3 ?d4 ?ck1;case' ck1=>(intro v2 w6 hown6 hb6 hg6;have HR6:=Lib.hid (HR5.out.app HGI.out (eOf (ek,et,er,ec)) hown6 hb6 hg6);clear hown6 hb6 hg6))
     case cg1=>first|rfl|simp
     case d1=>simp[Value.oneCell']
     case d2=>simp only[maxLen];omega
     case d3=>omega
     case d4=>omega
     rw[←HST2.out]at HR6;clear HR5 HST2 HST;go_wp2_with fail;go_roundw
     case rel=>exact⟨rfl,rfl,rfl,rfl,rfl,rfl,rfl,k+1,v2,F2,rfl,by go_num,by omega,HR6.out⟩
     case measure=>simp[intOf];omega
    ·intro J K' hJ hK'
     have hcs:∀o,(W0.alloc o).cell? ⟨gw,3,none⟩=some (.bool true):=fun o=>HGI.out.sh _ _ _ (HGI.out.keep _ _ _ _ HR.out.gt ((below_new W0 o).mono (by have:=HR.out.sz;omega)));cases hF:F t with
     |none=>
      have hmod0:=HR.out.mod;simp only[vclo,Option.isSome];by_cases hin:0≤t∧t<(ps.length:Int)
      ·obtain⟨T,rfl⟩:=Int.eq_ofNat_of_zero_le hin.1
       have hT:T<ps.length:=by omega
       obtain⟨bq,oq,rfl,hbq,hcq⟩:=Sl_at (k:=4) (fun _=>rfl) (by omega) (HP.out _ hmod0) (by omega);have p0:=hcq T hT 0 (by omega);have p1:=hcq T hT 1 (by omega);have p2:=hcq T hT 2 (by omega);have p3:=hcq T hT 3 (by omega);simp only[decPl,List.getElem?_cons_zero,List.getElem?_cons_succ,Nat.add_zero,←Nat.add_assoc]at p0 p1 p2 p3;have HPL:=Lib.hid (show planOf ps (T:Int)=ps[T] by unfold planOf;rw[if_pos hin,List.getD_eq_getElem?_getD,Int.toNat_natCast,List.getElem?_eq_getElem hT];rfl);generalize ps[T]=pl at*;obtain⟨pr,pp,pt,pd⟩:=pl;simp only at p0 p1 p2 p3;have i2:(T:Int)<(ps.length:Int):=by omega
       have hbz:bq<W0.heap.size:=by have:=HR.out.sz;omega
       have i3:(0:Int)≤(T:Int):=by omega
       clear hcq hin hmod0;cases pd
       ·go_wp2_with fail
        have hzz:(W0.alloc (.cells #[.int .i64 pr,.int .i64 pp,.int .i64 pt,.bool false] 34)).heap.size=W0.heap.size+1:=by simp
        refine(wants_any ⟨pr,pp,pt,false⟩ _).mono ?_;rintro e w2 ⟨rfl,hcl,hb2,hz2⟩;rw[←HPL.out]at hcl;have hbn:=below_new W0 (.cells #[.int .i64 pr,.int .i64 pp,.int .i64 pt,.bool false] 34);have hb3:=hbn.trans (hb2.mono hbn.size);rw[hzz]at hcl⊢;obtain⟨w3,hr3,hfm3,hm3⟩:=(HR.out.fm.mod (Mod.of_below (S:=[]) hb3) (by simp)).put (by omega) HT.out (W0.heap.size+1);have HRW:=Lib.hid (HR.out.fresh HGI.out hF (Nat.le_succ _) hb3 hcl hfm3 hm3);clear hcl hb2 hz2 hbn hb3 hfm3 hm3 hzz;go_wp2_with fail;exact Met.intro (hJ _ _ ⟨rfl,rfl,rfl,rfl,rfl,rfl,rfl,rfl,rfl,rfl,_,_,rfl,if_pos rfl,HRW.out⟩)
       ·go_wp2_with fail
        have hzz:(W0.alloc (.cells #[.int .i64 pr,.int .i64 pp,.int .i64 pt,.bool true] 34)).heap.size=W0.heap.size+1:=by simp
        refine(wants_any ⟨pr,pp,pt,true⟩ _).mono ?_;rintro e w2 ⟨rfl,hcl,hb2,hz2⟩;rw[←HPL.out]at hcl;have hbn:=below_new W0 (.cells #[.int .i64 pr,.int .i64 pp,.int .i64 pt,.bool true] 34);have hb3:=hbn.trans (hb2.mono hbn.size);rw[hzz]at hcl⊢;obtain⟨w3,hr3,hfm3,hm3⟩:=(HR.out.fm.mod (Mod.of_below (S:=[]) hb3) (by simp)).put (by omega) HT.out (W0.heap.size+1);have HRW:=Lib.hid (HR.out.fresh HGI.out hF (Nat.le_succ _) hb3 hcl hfm3 hm3);clear hcl hb2 hz2 hbn hb3 hfm3 hm3 hzz;go_wp2_with fail;exact Met.intro (hJ _ _ ⟨rfl,rfl,rfl,rfl,rfl,rfl,rfl,rfl,rfl,rfl,_,_,rfl,if_pos rfl,HRW.out⟩)
      ·have HPL:=Lib.hid (show planOf ps t=⟨0,0,0,false⟩ by unfold planOf;rw[if_neg hin];rfl)
       by_cases h3:0≤t
       ·have h4:¬t<(ps.length:Int):=by omega
        have h5:decide (t<(ps.length:Int))=false:=decide_eq_false h4;clear hin hmod0;go_wp2_with fail;have hzz:(W0.alloc (.cells #[.int .i64 0,.int .i64 0,.int .i64 0,.bool false] 34)).heap.size=W0.heap.size+1:=by simp
        refine(wants_any ⟨0,0,0,false⟩ _).mono ?_;rintro e w2 ⟨rfl,hcl,hb2,hz2⟩;rw[←HPL.out]at hcl;have hbn:=below_new W0 (.cells #[.int .i64 0,.int .i64 0,.int .i64 0,.bool false] 34);have hb3:=hbn.trans (hb2.mono hbn.size);rw[hzz]at hcl⊢;obtain⟨w3,hr3,hfm3,hm3⟩:=(HR.out.fm.mod (Mod.of_below (S:=[]) hb3) (by simp)).put (by omega) HT.out (W0.heap.size+1);have HRW:=Lib.hid (HR.out.fresh HGI.out hF (Nat.le_succ _) hb3 hcl hfm3 hm3);clear hcl hb2 hz2 hbn hb3 hfm3 hm3 hzz;go_wp2_with fail;exact Met.intro (hJ _ _ ⟨rfl,rfl,rfl,rfl,rfl,rfl,rfl,rfl,rfl,rfl,_,_,rfl,if_pos rfl,HRW.out⟩)
       ·have h5:decide (0≤t)=false:=decide_eq_false h3
        clear hin hmod0;go_wp2_with fail;have hzz:(W0.alloc (.cells #[.int .i64 0,.int .i64 0,.int .i64 0,.bool false] 34)).heap.size=W0.heap.size+1:=by simp
        refine(wants_any ⟨0,0,0,false⟩ _).mono ?_;rintro e w2 ⟨rfl,hcl,hb2,hz2⟩;rw[←HPL.out]at hcl;have hbn:=below_new W0 (.cells #[.int .i64 0,.int .i64 0,.int .i64 0,.bool false] 34);have hb3:=hbn.trans (hb2.mono hbn.size);rw[hzz]at hcl⊢;obtain⟨w3,hr3,hfm3,hm3⟩:=(HR.out.fm.mod (Mod.of_below (S:=[]) hb3) (by simp)).put (by omega) HT.out (W0.heap.size+1);have HRW:=Lib.hid (HR.out.fresh HGI.out hF (Nat.le_succ _) hb3 hcl hfm3 hm3);clear hcl hb2 hz2 hbn hb3 hfm3 hm3 hzz;go_wp2_with fail;exact Met.intro (hJ _ _ ⟨rfl,rfl,rfl,rfl,rfl,rfl,rfl,rfl,rfl,rfl,_,_,rfl,if_pos rfl,HRW.out⟩)
     |some B=>
      simp only[vclo,Option.isSome];go_wp2_with fail;exact Met.intro (hJ _ _ ⟨rfl,rfl,rfl,rfl,rfl,rfl,rfl,rfl,rfl,rfl,F,B,rfl,hF,HR.out.more⟩)
   ·intro J K' hJ hK'
    cases hF:F t with
    |none=>
     have h0:=HR.out.fm.look0 HT.out hF;go_wp2_with fail;exact Met.intro (hJ _ _ ⟨rfl,rfl,rfl,rfl,rfl,rfl,rfl,by rw[hF];rfl,by rw[hF];rfl,rfl,rfl,rfl,rfl⟩)
    |some B=>
     have h0:=HR.out.fm.look1 HT.out hF;go_wp2_with fail;exact Met.intro (hJ _ _ ⟨rfl,rfl,rfl,rfl,rfl,rfl,rfl,by rw[hF];rfl,by rw[hF];rfl,rfl,rfl,rfl,rfl⟩)
  ·obtain rfl:k=l.length:=by omega
   have i1:¬(l.length:Int)<(l.length:Int):=by omega
   rw[List.take_length]at HR;obtain⟨B2,cb,rfl,_,_,hsl⟩:=own_slice HR.out.own;clear hsl;go_wp2_with fail;go_ret;exact⟨B2,cb,rfl,HR.out.own,HR.out.gt,HR.out.mod⟩
end
end Go.Proofs.YtfmiioddhpkdkaaGreat.Wq
namespace Go.Proofs.YtfmiioddhpkdkaaGreat.Tq
open Go.RowKit Ara Tp Lok Wo Co Cm Wr Go.Proofs.YtfmiioddhpkdkaaGreat.Rw
open Go.Proofs.YtfmiioddhpkdkaaGreat.Sp (E dE outP Wf St dSt s0)
open Wn (Pl)
theorem frame124 {a:Act}(h:a.tmps.size=124)(hd:a.defers=[]):∃u:Nat→Value,a={tmps:= #[u 0,u 1,u 2,u 3,u 4,u 5,u 6,u 7,u 8,u 9,u 10,u 11,u 12,u 13,u 14,u 15,u 16,u 17,u 18,u 19,u 20,u 21,u 22,u 23,u 24,u 25,u 26,u 27,u 28,u 29,u 30,u 31,u 32,u 33,u 34,u 35,u 36,u 37,u 38,u 39,u 40,u 41,u 42,u 43,u 44,u 45,u 46,u 47,u 48,u 49,u 50,u 51,u 52,u 53,u 54,u 55,u 56,u 57,u 58,u 59,u 60,u 61,u 62,u 63,u 64,u 65,u 66,u 67,u 68,u 69,u 70,u 71,u 72,u 73,u 74,u 75,u 76,u 77,u 78,u 79,u 80,u 81,u 82,u 83,u 84,u 85,u 86,u 87,u 88,u 89,u 90,u 91,u 92,u 93,u 94,u 95,u 96,u 97,u 98,u 99,u 100,u 101,u 102,u 103,u 104,u 105,u 106,u 107,u 108,u 109,u 110,u 111,u 112,u 113,u 114,u 115,u 116,u 117,u 118,u 119,u 120,u 121,u 122,u 123],defers:=[]}∧∀n,a.tmps.getD n undef=u n:=by
 refine⟨fun n=>a.tmps.getD n undef,?_,fun _=>rfl⟩;have h1:=arr_lit a.tmps h;cases a with
 |mk t d=>
  simp only at hd h1;subst hd;congr 1
theorem infoPlan:(Tryz.prog.info? 34).map (fun i=>(i.zero,i.size,i.bytes))=some (some (.agg #[.int .i64 0,.int .i64 0,.int .i64 0,.bool false]),4,32):=by kernel_rfl
theorem plan_take {ps:List Pl}{i:Nat}(h:i<ps.length):((ps.take (i+1)).map rdOn).flatMap Wq.decPl=((ps.take i).map rdOn).flatMap Wq.decPl++Wq.decPl (rdOn ps[i]):=by
 rw[List.take_succ_eq_append_getElem h,List.map_append,List.flatMap_append];simp
def PlJ (ps:List Pl)(gr gw B0:Nat)(w:World)(a:Act)(W:World):Prop:=
 a.tmps.size=124∧a.defers=[]∧a.tmps.getD 5 undef= .pointer (some ⟨gr,0,none⟩)∧a.tmps.getD 7 undef= .pointer (some ⟨gw,0,none⟩)∧∃(i:Nat) (v:Value),a.tmps.getD 8 undef=v∧a.tmps.getD 9 undef= .int .i64 (i:Int)∧i≤ps.length∧W.ownsRow B0 34 4 v i (((ps.take i).map rdOn).flatMap Wq.decPl)∧Below w.heap.size w W
def StJ (n:Nat)(out:List St)(gr:Nat)(E_:Option Addr)(ce:Nat)(B:Option Addr)(cb:Nat)(w:World)(a:Act)(W:World):Prop:=
 a.tmps.size=124∧a.defers=[]∧a.tmps.getD 5 undef= .pointer (some ⟨gr,0,none⟩)∧a.tmps.getD 11 undef= .slice E_ n ce∧a.tmps.getD 12 undef= .slice B out.length cb∧∃i:Nat,a.tmps.getD 13 undef= .int .i64 (i:Int)∧i≤out.length∧Below w.heap.size w W
def OwJ (ks:List Int)(n:Nat)(out:List St)(gr:Nat)(E_:Option Addr)(ce:Nat)(B:Option Addr)(cb:Nat)(i x b:Nat)(th:Int)(w:World)(a:Act)(W:World):Prop:=
 a.tmps.size=124∧a.defers=[]∧a.tmps.getD 5 undef= .pointer (some ⟨gr,0,none⟩)∧a.tmps.getD 11 undef= .slice E_ n ce∧a.tmps.getD 12 undef= .slice B out.length cb∧a.tmps.getD 13 undef= .int .i64 (i:Int)∧a.tmps.getD 15 undef= .int .i64 (b:Int)∧∃k:Nat,a.tmps.getD 16 undef= .int .i64 (k:Int)∧a.tmps.getD 14 undef= .int .i64 (own ks x k th:Int)∧x<k∧k≤b∧Below w.heap.size w W
theorem st_get {w:World}{Bd:Nat}{A:Option Addr}{l:List St}(h:Sl w Bd A (l.flatMap dSt)){j:Nat}(hj:j<l.length):∃b off,A=some ⟨b,off,none⟩∧b<Bd∧w.cell? ⟨b,off+j*7,none⟩=some (.int .i64 l[j].th)∧w.cell? ⟨b,off+j*7+2,none⟩=some (.int .i64 l[j].ask)∧w.cell? ⟨b,off+j*7+3,none⟩=some (.int .i64 l[j].en):=by
 obtain⟨b,off,rfl,hb,hc⟩:=Sl_at (dec:=dSt) (k:=7) (fun _=>rfl) (by omega) h (by omega);have h0:=hc j hj 0 (by omega);have h2:=hc j hj 2 (by omega);have h3:=hc j hj 3 (by omega);simp only[dSt,List.getElem?_cons_zero,List.getElem?_cons_succ,Nat.add_zero,←Nat.add_assoc]at h0 h2 h3;exact⟨b,off,rfl,hb,h0,h2,h3⟩
def mayR (wn:Int):Prop:=(wn=1→false=true)∧(wn=3→true=true)
theorem mayR_of {wn:Int}(h:wn≠1):mayR wn:=⟨fun e=>absurd e h,fun _=>rfl⟩
theorem rqL_len' (D:LD (Ar×List Lok.Sp))(ps:List Pl)(x:Ar×List Lok.Sp)(ks:List Int):(Wn.rqL D.st (wact D) ps x ks).out.length=ks.length:=Wn.rqL_len D.st (wact D) ps x ks
section
variable(p t:List Int)(A B:Option Addr)(c d:Nat)(w:World)(hs:Sl w w.heap.size A (p.flatMap decI))(ht:Sl w w.heap.size B (t.flatMap decI))(n0 n1 n2 n3:Int)(h0:0≤n0∧n0≤255)(h1:0≤n1∧n1≤255)(h2:0≤n2∧n2≤255)(h3:0≤n3∧n3≤255)
include hs ht h0 h1 h2 h3
theorem readers_walk (hck:chk p t=0)(h8:t.length≤8)(ps:List Pl)(ks:List Int)(A2 B2:Option Addr)(c2 d2:Nat)(hpl:ps.length≤20)(hkl:ks.length≤200)(hwf:∀x∈ks,(Lit.int .i64 x).wf=true)(hsp:Sl w w.heap.size A2 (ps.flatMap Wq.decPl))(hsk:Sl w w.heap.size B2 (ks.flatMap decI)):
 Calls Tryz.prog 3 #[(.agg #[.slice A p.length c,.slice B t.length d]),(.agg #[.int .u8 n0,.int .u8 n1,.int .u8 n2,.int .u8 n3]),(.agg #[.slice A2 ps.length c2,.slice B2 ks.length d2])] w fun e w'=>e= .returned (.bool true)∧Below w.heap.size w w':=by
 have HS:=Lib.hid hs;have HT:=Lib.hid ht;have HP:=Lib.hid hsp;have HK:=Lib.hid hsk;have HWF:=Lib.hid hwf;have q0:0≤n3%3:=by omega
 have q1:n3%3<3:=by omega
 clear hs ht hsp hsk hwf;go_enter Tryz.func3,Tryz.ntmps3;go_wp2_with fail;have hb1:=below_new w (.cells #[.slice A p.length c,.slice B t.length d] 24);have hx1:=blk_new w (.cells #[.slice A p.length c,.slice B t.length d] 24);have hz1:(w.alloc (.cells #[.slice A p.length c,.slice B t.length d] 24)).heap.size=w.heap.size+1:=by simp
 generalize w.alloc (.cells #[.slice A p.length c,.slice B t.length d] 24)=W1 at*;have hb2:=below_new W1 (.cells #[.int .u8 n0,.int .u8 n1,.int .u8 n2,.int .u8 (10+n3%3)] 25);have hz2:(W1.alloc (.cells #[.int .u8 n0,.int .u8 n1,.int .u8 n2,.int .u8 (10+n3%3)] 25)).heap.size=W1.heap.size+1:=by simp
 have hx2:=(Mod.of_below (S:=[]) hb2).blk hx1 (by simp);generalize W1.alloc (.cells #[.int .u8 n0,.int .u8 n1,.int .u8 n2,.int .u8 (10+n3%3)] 25)=W2 at*;have hb3:=below_new W2 (.cells #[.slice A2 ps.length c2,.slice B2 ks.length d2] 28);have hy3:=blk_new W2 (.cells #[.slice A2 ps.length c2,.slice B2 ks.length d2] 28);have hx3:=(Mod.of_below (S:=[]) hb3).blk hx2 (by simp);have hz3:(W2.alloc (.cells #[.slice A2 ps.length c2,.slice B2 ks.length d2] 28)).heap.size=W2.heap.size+1:=by simp
 generalize W2.alloc (.cells #[.slice A2 ps.length c2,.slice B2 ks.length d2] 28)=W3 at*;rw[hz2,hz1]at hy3;have hbb:Below w.heap.size w W3:=(hb1.trans (hb2.mono (by omega))).trans (hb3.mono (by omega));have hzz:w.heap.size+3≤W3.heap.size:=by omega
 clear hb1 hx1 hz1 hb2 hz2 hx2 hb3 hz3;have HX3:=Lib.hid hx3;have HY3:=Lib.hid hy3;have HMD:=Lib.hid (made_r p t A B c d W3 ((Sl.below HS.out hbb).more hbb.size) ((Sl.below HT.out hbb).more hbb.size) n0 n1 n2 n3 h0 h1 h2 h3 hck h8);obtain⟨l1,l2,l3,l4⟩:=chk_len hck;have hg:1≤kgQ n0∧kgQ n0≤5:=by unfold kgQ;omega
 have hl:1≤kgQ n1∧kgQ n1≤5:=by unfold kgQ;omega
 have hp:1≤1+n2/4%4∧1+n2/4%4≤32:=by omega
 have HO:=Lib.hid (fun(m:Int) hm=>okr_new m hm hck (nw_ok hck hg hl hp (show 0≤n2%4 by omega)) hp.2);clear hx3 hy3 hg hl hp;refine HMD.out.mono ?_;unfold MadeR;rintro e W4 ⟨m,gw,ga,gt,gl,At,S,hm,rfl,hS,hLI,hWA,hb4⟩;obtain⟨hRp,hOk'⟩:=HO.out m hm;have hOk:OkR (rpOf m p t) (rx0 p t (nwOf p t (kgQ n0) (kgQ n1) (1+n2/4%4) (n2%4))) 40:=hOk';clear hOk';have HB4:=Lib.hid (hbb.trans (hb4.mono hbb.size));have HX4:=Lib.hid ((Mod.of_below (S:=[]) hb4).blk HX3.out (by simp));have HY4:=Lib.hid ((Mod.of_below (S:=[]) hb4).blk HY3.out (by simp));have HG:=Lib.hid (show Wq.GIW gw (Ar×List Lok.Sp) (fun k W x=>WoA gw ga gt gl (ldR (rpOf m p t)) At S W4.heap.size k W x) (ldR (rpOf m p t)).st (ldR (rpOf m p t)).rd (wact (ldR (rpOf m p t))) mayR S W4.heap.size from Wq.giw_wo hLI rfl);have HA:=Lib.hid hWA;have HRp:=Lib.hid hRp;have HOk:=Lib.hid hOk;have HSS:=Lib.hid (fun q hq=>Nat.le_trans hzz (hS q hq));have hz34:=hb4.size;clear hb4 HX3 HY3 HMD HO hLI hWA hRp hOk hS hm hbb l1 l2 l3 l4;have HX0:=Lib.hid (show(rx0 p t (nwOf p t (kgQ n0) (kgQ n1) (1+n2/4%4) (n2%4))).2=List.replicate (rpOf m p t).T Lok.sp0 from rfl);generalize rx0 p t (nwOf p t (kgQ n0) (kgQ n1) (1+n2/4%4) (n2%4))=x0 at*;generalize rpOf m p t=P at*;have b0:=blk_cell HX4.out 0 (by simp);have b1:=blk_cell HX4.out 1 (by simp);have y0:=blk_cell HY4.out 0 (by simp);have y1:=blk_cell HY4.out 1 (by simp);simp only[List.getElem_toArray,List.getElem_cons_zero,List.getElem_cons_succ]at b0 b1 y0 y1;have i1:¬(20:Int)<(ps.length:Int):=by omega
 have i2:¬(200:Int)<(ks.length:Int):=by omega
 have j1:decide ((20:Int)<(ps.length:Int))=false:=decide_eq_false i1;have j2:decide ((200:Int)<(ks.length:Int))=false:=decide_eq_false i2;have hsm:=Rn.small_any p t A B c d W4 ((Sl.below HS.out HB4.out).more HB4.out.size) ((Sl.below HT.out HB4.out).more HB4.out.size) 8;rw[show(decide (chk p t=0)&&decide ((t.length:Int)≤8))=true by rw[decide_eq_true hck,decide_eq_true (by omega)];rfl]at hsm;have HSM:=Lib.hid hsm;clear hsm HX4;go_wp2_with fail;refine HSM.out.mono ?_;rintro e W5 ⟨rfl,hb5⟩;have hz45:=hb5.size;have hzw:=HB4.out.size;have HB5:=Lib.hid (HB4.out.trans (hb5.mono HB4.out.size));have HA5:=Lib.hid (HG.out.keep 0 _ _ _ HA.out hb5);have HY5:=Lib.hid ((Mod.of_below (S:=[]) hb5).blk HY4.out (by simp));have HRD:=Lib.hid (fun W (hb:Below W5.heap.size W5 W)=>And.intro (blk_cell ((Mod.of_below (S:=[]) hb).blk HY5.out (by simp)) 0 (by simp)) (blk_cell ((Mod.of_below (S:=[]) hb).blk HY5.out (by simp)) 1 (by simp)));have HSQ:=Lib.hid HG.out.lt;clear hb5 b0 b1 y0 y1 HSM HB4 HA HY4;go_wp2_with fail;refine wp_loop (PlJ ps (w.heap.size+1+1) gw W5.heap.size W5) (fun a' _=>ps.length-(intOf (a'.tmps.getD 9 undef)).toNat) ?_ ?_
 ·exact⟨rfl,rfl,rfl,rfl,0,_,rfl,rfl,Nat.zero_le _,World.ownsRow_nil _ _ _ _,Below.refl _ _⟩
 ·rintro a' W ⟨hsz,hdf,s5,s7,i,v,s8,s9,hi,hown,hb⟩
  obtain⟨u,rfl,hu⟩:=frame124 hsz hdf;rw[hu]at s5 s7 s8 s9;simp only[s5,s7,s8,s9];clear hsz hdf s5 s7 s8 s9 hu;have HB:=Lib.hid hb;have HOW:=Lib.hid hown;have hzW:=hb.size;obtain⟨y0,y1⟩:=HRD.out W hb;simp only[List.getElem_toArray,List.getElem_cons_zero,List.getElem_cons_succ]at y0 y1;clear hb hown;by_cases hlt:i<ps.length
  ·have hSl:=Sl.below HP.out (HB5.out.trans (HB.out.mono (by omega)))
   obtain⟨b,off,rfl,hbb,hcell⟩:=Sl_at (k:=4) (fun _=>rfl) (by omega) hSl (by omega);have p0:=hcell i hlt 0 (by omega);have p1:=hcell i hlt 1 (by omega);have p2:=hcell i hlt 2 (by omega);have p3:=hcell i hlt 3 (by omega);simp only[Wq.decPl,List.getElem?_cons_zero,List.getElem?_cons_succ,Nat.add_zero,←Nat.add_assoc]at p0 p1 p2 p3;have HTK:=Lib.hid (plan_take hlt);have i3:(i:Int)<(ps.length:Int):=by omega
   clear hcell hSl;generalize ps[i]=q at*;obtain⟨qa,qb,qc,qd⟩:=q;simp only[rdOn,Wq.decPl]at p0 p1 p2 p3 HTK;have HN:=Lib.hid (And.intro (own_mod HOW.out (Mod.of_below (S:=[]) (below_new W (.cells #[.int .i64 qa,.int .i64 qb,.int .i64 qc,.bool true] 34))) (by simp)) (And.intro (show W5.heap.size≤(W.alloc (.cells #[.int .i64 qa,.int .i64 qb,.int .i64 qc,.bool true] 34)).heap.size by simp;omega) (fun v' V (ho:V.ownsRow W5.heap.size 34 4 v' (i+1) (((ps.take i).map rdOn).flatMap Wq.decPl++ [.int .i64 qa,.int .i64 qb,.int .i64 qc,.bool true])) (hb:Below W5.heap.size (W.alloc (.cells #[.int .i64 qa,.int .i64 qb,.int .i64 qc,.bool true] 34)) V)=>And.intro (HTK.out▸ho) ((HB.out.trans ((below_new W _).mono (by omega))).trans hb))));go_wp2_with(at_builtin;refine wpList_append1 (.tmp 56) (.tmp 58) 26 34 _ 4 32 rfl rfl Tryz.underlying26 infoPlan rfl (by decide) W5.heap.size _ _ _ _ _ _ _ _ HN.out.1 rfl rfl ?cg rfl ?d1 ?d2 ?d3 ?d4 ?ck;case' ck=>(intro v2 W6 hown6 hb6 _;have HF6:=Lib.hid (HN.out.2.2 v2 W6 hown6 hb6);clear hown6 hb6))
   case cg=>first|rfl|simp
   case d1=>simp[Value.oneCell']
   case d2=>simp only[maxLen];omega
   case d3=>omega
   case d4=>have:=HN.out.2.1;omega
   clear HN;go_wp2_with fail;go_roundw
   case rel=>exact⟨rfl,rfl,rfl,rfl,i+1,_,rfl,by go_num,by omega,HF6.out.1,HF6.out.2⟩
   case measure=>simp[intOf];omega
  ·obtain rfl:i=ps.length:=by omega
   have i3:¬(ps.length:Int)<(ps.length:Int):=by omega
   rw[List.take_length]at HOW;obtain⟨V0,cv,rfl,_,_,hse⟩:=own_slice HOW.out;clear hse;have hzW2:=HB.out.size;have HRUN:=Lib.hid (Wq.run_any gw (fun k W x=>WoA gw ga gt gl (ldR P) At S W4.heap.size k W x) (ldR P).st (ldR P).rd (wact (ldR P)) mayR S W (HG.out.up (Nat.le_trans hz45 hzW2)) (ps.map rdOn) (fun t x s hx=>mayR_of (want_not1 (all_on ps) t x hx s)) V0 cv (by simp;omega) (fun W' hm=>Wq.own_sl HOW.out hm (fun k hk=>Nat.lt_of_lt_of_le (HSQ.out k hk) hz45)) ks B2 d2 (by omega) (fun x hx=>HWF.out x hx) (fun W' hm=>((Sl.below HK.out (HB5.out.trans (HB.out.mono (by omega)))).mod hm (by omega) (fun k hk=>by have:=HSS.out k hk;omega)).more (by omega)) x0 (HG.out.keep 0 _ _ _ HA5.out (HB.out.mono hz45)));obtain⟨hwf,hpl2⟩:=readers_plain HRp.out HOk.out HX0.out (all_on ps) ks HWF.out;have hlen:=rqL_len' (ldR P) (ps.map rdOn) x0 ks;generalize hout:(Wn.rqL (ldR P).st (wact (ldR P)) (ps.map rdOn) x0 ks)=rq at*;have HPL:=Lib.hid hpl2;have HWO:=Lib.hid hwf;rw[List.length_map]at HRUN;clear hout hpl2 hwf HOW;go_wp2_with fail;refine HRUN.out.mono ?_;rintro e W6 ⟨EB,ce,rfl,hown6,-,hm6⟩;have hzw0:w.heap.size+3≤W.heap.size:=by omega
   have HB6:=Lib.hid ((HB5.out.trans (HB.out.mono (by omega))).trans (hm6.below (by omega) (fun k hk=>by have:=HSS.out k hk;omega)));have HY6:=Lib.hid (hm6.blk ((Mod.of_below (S:=[]) HB.out).blk HY5.out (by simp)) (fun h=>by have:=HSS.out _ h;omega));obtain⟨E2,ce2,e1,_,_,hse⟩:=own_slice hown6;cases e1
   have HOF:=Lib.hid (Sp.of_any rq.out EB ce W6 (by omega) HWO.out hse);have hz6:=hm6.size;have hok:(outP rq.out ks.length).length≤ks.length:=Sp.outP_len rq.out ks.length;rw[hlen]at HOF;clear hown6 hm6 hse HWO HRUN HG HA5 HRD HY5 HSQ HSS HB HB5 HRp HOk HX0 HP y0 y1;generalize outP rq.out ks.length=out at*;clear hlen;go_wp2_with fail;refine HOF.out.mono ?_;rintro e W7 ⟨B7,c7,rfl,hown7,hb7⟩;have HB7:=Lib.hid (HB6.out.trans (hb7.mono HB6.out.size));have HY7:=Lib.hid ((Mod.of_below (S:=[]) hb7).blk HY6.out (by simp));obtain⟨B8,c8,e2,_,_,hst⟩:=own_slice hown7;cases e2
   have HST:Hid (Sl W7 W7.heap.size B7 (out.flatMap dSt)):=Lib.hid hst;have HRD:=Lib.hid (fun W (hb:Below W7.heap.size W7 W)=>blk_cell ((Mod.of_below (S:=[]) hb).blk HY7.out (by simp)) 1 (by simp));have HKS:=Lib.hid (fun W (hb:Below W7.heap.size W7 W)=>Sl.below HK.out (HB7.out.trans (hb.mono HB7.out.size)));clear hown7 hb7 hst HOF HB6 HY6 HK HY7;go_wp2_with fail;refine wp_loop (StJ ks.length out (w.heap.size+1+1) EB ce B7 c7 W7) (fun a' _=>out.length-(intOf (a'.tmps.getD 13 undef)).toNat) ?_ ?_
   ·exact⟨rfl,rfl,rfl,rfl,rfl,0,rfl,Nat.zero_le _,Below.refl _ _⟩
   ·rintro a' V ⟨hsz,hdf,s5,s11,s12,j,s13,hj,hbV⟩
    have HBV:=Lib.hid hbV;have hy:=HRD.out V hbV;simp only[List.getElem_toArray,List.getElem_cons_zero,List.getElem_cons_succ]at hy;clear hbV;obtain⟨u,rfl,hu⟩:=frame124 hsz hdf;rw[hu]at s5 s11 s12 s13;simp only[s5,s11,s12,s13];clear hsz hdf s5 s11 s12 s13 hu;by_cases hlt:j<out.length
    ·have i4:(j:Int)<(out.length:Int):=by omega
     obtain⟨b,off,rfl,hbb,f0,f2,f3⟩:=st_get HST.out hlt;have HC:=Lib.hid (fun V (hb:Below W7.heap.size W7 V)=>And.intro ((hb.cell (p:=⟨b,off+j*7,none⟩) hbb).trans f0) (And.intro ((hb.cell (p:=⟨b,off+j*7+2,none⟩) hbb).trans f2) ((hb.cell (p:=⟨b,off+j*7+3,none⟩) hbb).trans f3)));clear f0 f2 f3;obtain⟨g0,g2,g3⟩:=HC.out V HBV.out;obtain⟨x,bb,k1,k2,k3,k4,k5⟩:=HPL.out out[j] (List.getElem_mem hlt);have HOWN:=Lib.hid k5;clear k5;generalize out[j]=st at*;rw[k1]at g2;clear k1;by_cases hen:st.en<0
     ·rw[if_pos hen]at k4
      obtain rfl:bb=ks.length:=by omega
      clear k4;go_wp2_with fail;refine wp_loop (OwJ ks ks.length out (w.heap.size+1+1) EB ce (some ⟨b,off,none⟩) c7 j x ks.length st.th W7) (fun a' _=>ks.length-(intOf (a'.tmps.getD 16 undef)).toNat) ?_ ?_
      ·exact⟨rfl,rfl,rfl,rfl,rfl,rfl,rfl,x+1,by first|rfl|go_num,by rw[own_self];rfl,by omega,by omega,HBV.out⟩
      ·rintro a' Y ⟨hsz,hdf,s5,s11,s12,s13,s15,k,s16,s14,hk1,hk2,hbY⟩
       have HBY:=Lib.hid hbY;have hy:=HRD.out Y hbY;simp only[List.getElem_toArray,List.getElem_cons_zero,List.getElem_cons_succ]at hy;have t0:=(HC.out Y hbY).1;have hsl:=HKS.out Y hbY;clear hbY;obtain⟨u,rfl,hu⟩:=frame124 hsz hdf;rw[hu]at s5 s11 s12 s13 s15 s16 s14;simp only[s5,s11,s12,s13,s15,s16,s14];clear hsz hdf s5 s11 s12 s13 s15 s16 s14 hu;have hole:=own_le ks x k st.th;by_cases hkb:k<ks.length
       ·have i5:(k:Int)<(ks.length:Int):=by omega
        have i6:(k:Int)<(ks.length:Int):=by omega
        have j6:=decide_eq_true i6;have hkl2:k<ks.length:=by omega
        obtain⟨pb,po,rfl,hpb,hpc⟩:=Sl_at (k:=1) (fun _=>rfl) (by omega) hsl (by omega);have z0:=hpc k hkl2 0 (by omega);simp only[decI,List.getElem?_cons_zero,Nat.mul_one,Nat.add_zero]at z0;have HOS:=Lib.hid (own_succ (t:=st.th) hkl2 hk1);clear hpc hsl HKS HPL;generalize ks[k]=kk at*;by_cases e:kk=st.th
        ·subst e
         have HOS1:=Lib.hid (HOS.out.trans (by rw[if_pos rfl]));clear HOS;go_wp2_with fail;go_quiet(fail);go_wp2_with fail;go_roundw
         case rel=>exact⟨rfl,rfl,rfl,rfl,rfl,rfl,rfl,k+1,by go_num,(by rw[HOS1.out]<;>first|rfl|go_num),by omega,by omega,below_drewN HBY.out _⟩
         case measure=>simp[intOf];omega
        ·have e5:=ibeq_no e
         have HOS1:=Lib.hid (HOS.out.trans (by rw[if_neg e,Nat.add_zero]));clear HOS e;go_wp2_with fail;go_quiet(fail);go_wp2_with fail;go_roundw
         case rel=>exact⟨rfl,rfl,rfl,rfl,rfl,rfl,rfl,k+1,by go_num,(by rw[HOS1.out]<;>first|rfl|go_num),by omega,by omega,below_drewN HBY.out _⟩
         case measure=>simp[intOf];omega
       ·obtain rfl:ks.length=k:=by omega
        have i5:¬((ks.length:Nat):Int)<(ks.length:Int):=by omega
        have ho:=HOWN.out;have i7:¬(2:Int)<(own ks x ks.length st.th:Int):=by omega
        clear hsl;go_wp2_with fail;go_roundw
        case rel=>exact⟨rfl,rfl,rfl,rfl,rfl,j+1,by go_num,by omega,HBY.out⟩
        case measure=>simp[intOf];omega
     ·rw[if_neg hen]at k4
      rw[k4]at g3 hen;clear k4;go_wp2_with fail;refine wp_loop (OwJ ks ks.length out (w.heap.size+1+1) EB ce (some ⟨b,off,none⟩) c7 j x bb st.th W7) (fun a' _=>ks.length-(intOf (a'.tmps.getD 16 undef)).toNat) ?_ ?_
      ·exact⟨rfl,rfl,rfl,rfl,rfl,rfl,rfl,x+1,by first|rfl|go_num,by rw[own_self];rfl,by omega,by omega,HBV.out⟩
      ·rintro a' Y ⟨hsz,hdf,s5,s11,s12,s13,s15,k,s16,s14,hk1,hk2,hbY⟩
       have HBY:=Lib.hid hbY;have hy:=HRD.out Y hbY;simp only[List.getElem_toArray,List.getElem_cons_zero,List.getElem_cons_succ]at hy;have t0:=(HC.out Y hbY).1;have hsl:=HKS.out Y hbY;clear hbY;obtain⟨u,rfl,hu⟩:=frame124 hsz hdf;rw[hu]at s5 s11 s12 s13 s15 s16 s14;simp only[s5,s11,s12,s13,s15,s16,s14];clear hsz hdf s5 s11 s12 s13 s15 s16 s14 hu;have hole:=own_le ks x k st.th;by_cases hkb:k<bb
       ·have i5:(k:Int)<(bb:Int):=by omega
        have i6:(k:Int)<(ks.length:Int):=by omega
        have j6:=decide_eq_true i6;have hkl2:k<ks.length:=by omega
        obtain⟨pb,po,rfl,hpb,hpc⟩:=Sl_at (k:=1) (fun _=>rfl) (by omega) hsl (by omega);have z0:=hpc k hkl2 0 (by omega);simp only[decI,List.getElem?_cons_zero,Nat.mul_one,Nat.add_zero]at z0;have HOS:=Lib.hid (own_succ (t:=st.th) hkl2 hk1);clear hpc hsl HKS HPL;generalize ks[k]=kk at*;by_cases e:kk=st.th
        ·subst e
         have HOS1:=Lib.hid (HOS.out.trans (by rw[if_pos rfl]));clear HOS;go_wp2_with fail;go_quiet(fail);go_wp2_with fail;go_roundw
         case rel=>exact⟨rfl,rfl,rfl,rfl,rfl,rfl,rfl,k+1,by go_num,(by rw[HOS1.out]<;>first|rfl|go_num),by omega,by omega,below_drewN HBY.out _⟩
         case measure=>simp[intOf];omega
        ·have e5:=ibeq_no e
         have HOS1:=Lib.hid (HOS.out.trans (by rw[if_neg e,Nat.add_zero]));clear HOS e;go_wp2_with fail;go_quiet(fail);go_wp2_with fail;go_roundw
         case rel=>exact⟨rfl,rfl,rfl,rfl,rfl,rfl,rfl,k+1,by go_num,(by rw[HOS1.out]<;>first|rfl|go_num),by omega,by omega,below_drewN HBY.out _⟩
         case measure=>simp[intOf];omega
       ·obtain rfl:bb=k:=by omega
        have i5:¬((bb:Nat):Int)<(bb:Int):=by omega
        have ho:=HOWN.out;have i7:¬(2:Int)<(own ks x bb st.th:Int):=by omega
        clear hsl;go_wp2_with fail;go_roundw
        case rel=>exact⟨rfl,rfl,rfl,rfl,rfl,j+1,by go_num,by omega,HBY.out⟩
        case measure=>simp[intOf];omega
    ·obtain rfl:j=out.length:=by omega
     have i4:¬(out.length:Int)<(out.length:Int):=by omega
     clear HRD HKS HST HPL;go_wp2_with fail;refine(awake_any V).mono ?_;rintro e W9 ⟨rfl,hb9⟩;have HB9:=Lib.hid ((HB7.out.trans (HBV.out.mono HB7.out.size)).trans (hb9.mono (Nat.le_trans HB7.out.size HBV.out.size)));clear hb9;go_wp2_with fail;go_ret;exact⟨rfl,HB9.out⟩
end
end Go.Proofs.YtfmiioddhpkdkaaGreat.Tq
namespace Go.Proofs.YtfmiioddhpkdkaaGreat.Tp
open Go.RowKit Go.ChangeShapes Go.WideShapes Go.Deep Li De Ara Ara
theorem arg_topo {H:Type}{enc:TypeId×Value→H}{w:World}{base:Nat}{spare:Nat→Bool}{held:Bool}{v:Value}{D:DataW H}{pl:List MemPlace}(hv:∃cs,v= .agg cs)(h:DataW.Trod enc Tryz.prog w base spare held 24 v D pl):
 ∃(A B:Option Addr) (c d:Nat) (p t:List Int),v= .agg #[.slice A p.length c,.slice B t.length d]∧p.length≤c∧c≤maxLen∧t.length≤d∧d≤maxLen∧Sl w w.heap.size A (p.flatMap decI)∧Sl w w.heap.size B (t.flatMap decI):=by
 obtain⟨cs,rfl⟩:=hv;obtain⟨fuel,hf⟩:=h;obtain⟨hl,hfl⟩:=fields_of Tryz.underlying24 (by kernel_rfl) (by kernel_rfl) hf;have hl2:cs.toList.length=2:=hl;obtain⟨x,y,e⟩:=list2 hl2;have e':(Value.agg cs).cells.toList=[x,y]:=e;rw[e']at hfl;obtain⟨_,_,g0⟩:=hfl 0 _ x rfl rfl;obtain⟨_,_,g1⟩:=hfl 1 _ y rfl rfl;obtain⟨A,n,c,p,h1,rfl,h2,h3,_,h4⟩:=slice_of (k:=1) Tryz.underlying22 (by kernel_rfl) (fun _=>rfl) (reads_i64 Tryz.underlying3) g0;obtain⟨B,m,d,t,k1,rfl,k2,k3,_,k4⟩:=slice_of (k:=1) Tryz.underlying22 (by kernel_rfl) (fun _=>rfl) (reads_i64 Tryz.underlying3) g1;injection h1 with h1;injection k1 with k1;subst h1 k1;refine⟨A,B,c,d,p,t,?_,h2,h3,k2,k3,h4,k4⟩;congr 1;apply Array.ext';rw[e]
end Go.Proofs.YtfmiioddhpkdkaaGreat.Tp
namespace Go.Proofs.YtfmiioddhpkdkaaGreat.Tq
open Go.RowKit Go.ChangeShapes Go.WideShapes Go.Deep Ara Wn
theorem reads_pl {H:Type}{enc:TypeId×Value→H}:Reads enc Tryz.prog 34 Wq.decPl (fun e=>isI64 e.rest∧isI64 e.stay∧isI64 e.times):=
 (reads_s4 (d0:=Value.int .i64) (d1:=Value.int .i64) (d2:=Value.int .i64) (d3:=Value.bool) Tryz.underlying34 (by kernel_rfl) (by kernel_rfl) (reads_i64 Tryz.underlying3) (reads_i64 Tryz.underlying3) (reads_i64 Tryz.underlying3) (reads_bool Tryz.underlying4)).map
  (fun p=>⟨p.1,p.2.1,p.2.2.1,p.2.2.2⟩) (fun _=>rfl) (fun _ h=>⟨h.1,h.2.1,h.2.2.1⟩)
theorem arg_run {H:Type}{enc:TypeId×Value→H}{w:World}{base:Nat}{spare:Nat→Bool}{held:Bool}{v:Value}{D:DataW H}{pl:List MemPlace}(hv:∃cs,v= .agg cs)(h:DataW.Trod enc Tryz.prog w base spare held 28 v D pl):
 ∃(A B:Option Addr) (c d:Nat) (p:List Pl) (t:List Int),v= .agg #[.slice A p.length c,.slice B t.length d]∧p.length≤c∧c≤maxLen∧t.length≤d∧d≤maxLen∧(∀x∈t,isI64 x)∧Sl w w.heap.size A (p.flatMap Wq.decPl)∧Sl w w.heap.size B (t.flatMap decI):=by
 obtain⟨cs,rfl⟩:=hv;obtain⟨fuel,hf⟩:=h;obtain⟨hl,hfl⟩:=fields_of Tryz.underlying28 (by kernel_rfl) (by kernel_rfl) hf;have hl2:cs.toList.length=2:=hl
 obtain⟨x,y,e⟩:∃x y,cs.toList=[x,y]:=by
  generalize cs.toList=l at hl2;rcases l with _|⟨a,_|⟨b,_|⟨c,r⟩⟩⟩
  ·cases hl2
  ·cases hl2
  ·exact⟨a,b,rfl⟩
  ·simp at hl2
 have e':(Value.agg cs).cells.toList=[x,y]:=e;rw[e']at hfl;obtain⟨_,_,g0⟩:=hfl 0 _ x rfl rfl;obtain⟨_,_,g1⟩:=hfl 1 _ y rfl rfl;obtain⟨A,n,c,p,h1,rfl,h2,h3,_,h4⟩:=slice_of (k:=4) Tryz.underlying26 (by kernel_rfl) (fun _=>rfl) reads_pl g0;obtain⟨B,m,d,t,k1,rfl,k2,k3,k5,k4⟩:=slice_of (k:=1) Tryz.underlying22 (by kernel_rfl) (fun _=>rfl) (reads_i64 Tryz.underlying3) g1;injection h1 with h1;injection k1 with k1;subst h1 k1;refine⟨A,B,c,d,p,t,?_,h2,h3,k2,k3,k5,h4,k4⟩;congr 1;apply Array.ext';rw[e]
end Go.Proofs.YtfmiioddhpkdkaaGreat.Tq
namespace Go.Proofs.YtfmiioddhpkdkaaGreat.Tq
open Go.RowKit Ara Tp Lok Wo Co Cm Wr Go.Proofs.YtfmiioddhpkdkaaGreat.Rw
open Wn (Pl)
section
variable(p t:List Int)(A B:Option Addr)(c d:Nat)(w:World)(hs:Sl w w.heap.size A (p.flatMap decI))(ht:Sl w w.heap.size B (t.flatMap decI))(n0 n1 n2 n3:Int)(h0:0≤n0∧n0≤255)(h1:0≤n1∧n1≤255)(h2:0≤n2∧n2≤255)(h3:0≤n3∧n3≤255)(ps:List Pl)(ks:List Int)(A2 B2:Option Addr)(c2 d2:Nat)(hpm:ps.length≤maxLen)(hkm:ks.length≤maxLen)
include hs ht h0 h1 h2 h3 hpm hkm
omit h0 h1 h2 in
theorem readers_no (h:¬(chk p t=0∧t.length≤8)):
 Calls Tryz.prog 3 #[(.agg #[.slice A p.length c,.slice B t.length d]),(.agg #[.int .u8 n0,.int .u8 n1,.int .u8 n2,.int .u8 n3]),(.agg #[.slice A2 ps.length c2,.slice B2 ks.length d2])] w fun e w'=>e= .returned (.bool true)∧Below w.heap.size w w':=by
 have HS:=Lib.hid hs;have HT:=Lib.hid ht;have q0:0≤n3%3:=by omega
 have q1:n3%3<3:=by omega
 have m1:(ps.length:Int)≤9223372036854775807:=by simp only[maxLen]at hpm;omega
 have m2:(ks.length:Int)≤9223372036854775807:=by simp only[maxLen]at hkm;omega
 clear hs ht hpm hkm;go_enter Tryz.func3,Tryz.ntmps3;go_wp2_with fail;have hb1:=below_new w (.cells #[.slice A p.length c,.slice B t.length d] 24);have hx1:=blk_new w (.cells #[.slice A p.length c,.slice B t.length d] 24);have hz1:(w.alloc (.cells #[.slice A p.length c,.slice B t.length d] 24)).heap.size=w.heap.size+1:=by simp
 generalize w.alloc (.cells #[.slice A p.length c,.slice B t.length d] 24)=W1 at*;have hb2:=below_new W1 (.cells #[.int .u8 n0,.int .u8 n1,.int .u8 n2,.int .u8 (10+n3%3)] 25);have hz2:(W1.alloc (.cells #[.int .u8 n0,.int .u8 n1,.int .u8 n2,.int .u8 (10+n3%3)] 25)).heap.size=W1.heap.size+1:=by simp
 have hx2:=(Mod.of_below (S:=[]) hb2).blk hx1 (by simp);generalize W1.alloc (.cells #[.int .u8 n0,.int .u8 n1,.int .u8 n2,.int .u8 (10+n3%3)] 25)=W2 at*;have hb3:=below_new W2 (.cells #[.slice A2 ps.length c2,.slice B2 ks.length d2] 28);have hy3:=blk_new W2 (.cells #[.slice A2 ps.length c2,.slice B2 ks.length d2] 28);have hx3:=(Mod.of_below (S:=[]) hb3).blk hx2 (by simp);have hz3:(W2.alloc (.cells #[.slice A2 ps.length c2,.slice B2 ks.length d2] 28)).heap.size=W2.heap.size+1:=by simp
 generalize W2.alloc (.cells #[.slice A2 ps.length c2,.slice B2 ks.length d2] 28)=W3 at*;rw[hz2,hz1]at hy3;have hbb:Below w.heap.size w W3:=(hb1.trans (hb2.mono (by omega))).trans (hb3.mono (by omega));have hzz:w.heap.size+3≤W3.heap.size:=by omega
 have HX3:=Lib.hid hx3;have HY3:=Lib.hid hy3;clear hb1 hx1 hz1 hb2 hz2 hx2 hb3 hz3 hx3 hy3;have HMD:=Lib.hid (made_no p t A B c d W3 ((Sl.below HS.out hbb).more hbb.size) ((Sl.below HT.out hbb).more hbb.size) n0 n1 n2 (10+n3%3) h);refine HMD.out.mono ?_;rintro e W4 ⟨rfl,hb4⟩;have HB4:=Lib.hid (hbb.trans (hb4.mono hbb.size));have HX4:=Lib.hid ((Mod.of_below (S:=[]) hb4).blk HX3.out (by simp));have HY4:=Lib.hid ((Mod.of_below (S:=[]) hb4).blk HY3.out (by simp));clear hb4 HMD HX3 HY3 hbb;have b0:=blk_cell HX4.out 0 (by simp);have b1:=blk_cell HX4.out 1 (by simp);have y0:=blk_cell HY4.out 0 (by simp);have y1:=blk_cell HY4.out 1 (by simp);simp only[List.getElem_toArray,List.getElem_cons_zero,List.getElem_cons_succ]at b0 b1 y0 y1;by_cases hl1:(20:Int)<(ps.length:Int)
 ·have j1:decide ((20:Int)<(ps.length:Int))=true:=decide_eq_true hl1
  clear h;go_wp2_with fail;refine(awake_any _).mono ?_;rintro e W9 ⟨rfl,hb9⟩;have HB9:=Lib.hid (HB4.out.trans (hb9.mono HB4.out.size));clear hb9;go_wp2_with fail;go_ret;exact⟨rfl,HB9.out⟩
 ·have j1:decide ((20:Int)<(ps.length:Int))=false:=decide_eq_false hl1
  by_cases hl2:(200:Int)<(ks.length:Int)
  ·have j2:decide ((200:Int)<(ks.length:Int))=true:=decide_eq_true hl2
   clear h;go_wp2_with fail;refine(awake_any _).mono ?_;rintro e W9 ⟨rfl,hb9⟩;have HB9:=Lib.hid (HB4.out.trans (hb9.mono HB4.out.size));clear hb9;go_wp2_with fail;go_ret;exact⟨rfl,HB9.out⟩
  ·have j2:decide ((200:Int)<(ks.length:Int))=false:=decide_eq_false hl2
   have hsm:=Rn.small_any p t A B c d W4 ((Sl.below HS.out HB4.out).more HB4.out.size) ((Sl.below HT.out HB4.out).more HB4.out.size) 8
   rw[show(decide (chk p t=0)&&decide ((t.length:Int)≤8))=false by
    by_cases h1:chk p t=0
    ·rw[decide_eq_true h1,Bool.true_and];exact decide_eq_false (by omega)
    ·rw[decide_eq_false h1,Bool.false_and]]at hsm
   have HSM:=Lib.hid hsm;clear hsm h HX4 HY4;go_wp2_with fail;refine HSM.out.mono ?_;rintro e W5 ⟨rfl,hb5⟩;have HB5:=Lib.hid (HB4.out.trans (hb5.mono HB4.out.size));clear hb5;go_wp2_with fail;refine(awake_any _).mono ?_;rintro e W9 ⟨rfl,hb9⟩;have HB9:=Lib.hid (HB5.out.trans (hb9.mono HB5.out.size));clear hb9;go_wp2_with fail;go_ret;exact⟨rfl,HB9.out⟩
theorem readers_long (hck:chk p t=0)(h8:t.length≤8)(hlong:20<ps.length∨200<ks.length):
 Calls Tryz.prog 3 #[(.agg #[.slice A p.length c,.slice B t.length d]),(.agg #[.int .u8 n0,.int .u8 n1,.int .u8 n2,.int .u8 n3]),(.agg #[.slice A2 ps.length c2,.slice B2 ks.length d2])] w fun e w'=>e= .returned (.bool true)∧Below w.heap.size w w':=by
 have HS:=Lib.hid hs;have HT:=Lib.hid ht;have q0:0≤n3%3:=by omega
 have q1:n3%3<3:=by omega
 have m1:(ps.length:Int)≤9223372036854775807:=by simp only[maxLen]at hpm;omega
 have m2:(ks.length:Int)≤9223372036854775807:=by simp only[maxLen]at hkm;omega
 clear hs ht hpm hkm;go_enter Tryz.func3,Tryz.ntmps3;go_wp2_with fail;have hb1:=below_new w (.cells #[.slice A p.length c,.slice B t.length d] 24);have hx1:=blk_new w (.cells #[.slice A p.length c,.slice B t.length d] 24);have hz1:(w.alloc (.cells #[.slice A p.length c,.slice B t.length d] 24)).heap.size=w.heap.size+1:=by simp
 generalize w.alloc (.cells #[.slice A p.length c,.slice B t.length d] 24)=W1 at*;have hb2:=below_new W1 (.cells #[.int .u8 n0,.int .u8 n1,.int .u8 n2,.int .u8 (10+n3%3)] 25);have hz2:(W1.alloc (.cells #[.int .u8 n0,.int .u8 n1,.int .u8 n2,.int .u8 (10+n3%3)] 25)).heap.size=W1.heap.size+1:=by simp
 have hx2:=(Mod.of_below (S:=[]) hb2).blk hx1 (by simp);generalize W1.alloc (.cells #[.int .u8 n0,.int .u8 n1,.int .u8 n2,.int .u8 (10+n3%3)] 25)=W2 at*;have hb3:=below_new W2 (.cells #[.slice A2 ps.length c2,.slice B2 ks.length d2] 28);have hy3:=blk_new W2 (.cells #[.slice A2 ps.length c2,.slice B2 ks.length d2] 28);have hx3:=(Mod.of_below (S:=[]) hb3).blk hx2 (by simp);have hz3:(W2.alloc (.cells #[.slice A2 ps.length c2,.slice B2 ks.length d2] 28)).heap.size=W2.heap.size+1:=by simp
 generalize W2.alloc (.cells #[.slice A2 ps.length c2,.slice B2 ks.length d2] 28)=W3 at*;rw[hz2,hz1]at hy3;have hbb:Below w.heap.size w W3:=(hb1.trans (hb2.mono (by omega))).trans (hb3.mono (by omega));have hzz:w.heap.size+3≤W3.heap.size:=by omega
 have HX3:=Lib.hid hx3;have HY3:=Lib.hid hy3;clear hb1 hx1 hz1 hb2 hz2 hx2 hb3 hz3 hx3 hy3;have HMD:=Lib.hid (made_r p t A B c d W3 ((Sl.below HS.out hbb).more hbb.size) ((Sl.below HT.out hbb).more hbb.size) n0 n1 n2 n3 h0 h1 h2 h3 hck h8);refine HMD.out.mono ?_;unfold MadeR;rintro e W4 ⟨m,gw,ga,gt,gl,At,S,hm,rfl,hS,hLI,hWA,hb4⟩;have HB4:=Lib.hid (hbb.trans (hb4.mono hbb.size));have HX4:=Lib.hid ((Mod.of_below (S:=[]) hb4).blk HX3.out (by simp));have HY4:=Lib.hid ((Mod.of_below (S:=[]) hb4).blk HY3.out (by simp));clear hS hLI hWA hm hb4 HMD HX3 HY3 hbb;have b0:=blk_cell HX4.out 0 (by simp);have b1:=blk_cell HX4.out 1 (by simp);have y0:=blk_cell HY4.out 0 (by simp);have y1:=blk_cell HY4.out 1 (by simp);simp only[List.getElem_toArray,List.getElem_cons_zero,List.getElem_cons_succ]at b0 b1 y0 y1;by_cases hl1:(20:Int)<(ps.length:Int)
 ·have j1:decide ((20:Int)<(ps.length:Int))=true:=decide_eq_true hl1
  clear hlong;go_wp2_with fail;refine(awake_any _).mono ?_;rintro e W9 ⟨rfl,hb9⟩;have HB9:=Lib.hid (HB4.out.trans (hb9.mono HB4.out.size));clear hb9;go_wp2_with fail;go_ret;exact⟨rfl,HB9.out⟩
 ·have j1:decide ((20:Int)<(ps.length:Int))=false:=decide_eq_false hl1
  have hl2:(200:Int)<(ks.length:Int):=by omega
  have j2:decide ((200:Int)<(ks.length:Int))=true:=decide_eq_true hl2;clear hlong;go_wp2_with fail;refine(awake_any _).mono ?_;rintro e W9 ⟨rfl,hb9⟩;have HB9:=Lib.hid (HB4.out.trans (hb9.mono HB4.out.size));clear hb9;go_wp2_with fail;go_ret;exact⟨rfl,HB9.out⟩
end
theorem list4' {α:Type}{l:List α}(h:l.length=4):∃a b c d,l=[a,b,c,d]:=by
 rcases l with _|⟨a,_|⟨b,_|⟨c,_|⟨d,_|⟨e,r⟩⟩⟩⟩⟩
 ·cases h
 ·cases h
 ·cases h
 ·cases h
 ·exact⟨a,b,c,d,rfl⟩
 ·simp at h
theorem readers_law (w:World)(A B:Option Addr)(c d:Nat)(p t:List Int)(_hc:p.length≤c)(_hm:c≤maxLen)(_hd:t.length≤d)(_hn:d≤maxLen)(hs:Sl w w.heap.size A (p.flatMap decI))(ht:Sl w w.heap.size B (t.flatMap decI))(n:List Int)(hn:n.length=4∧∀a∈n,isU8 a)
 (A2 B2:Option Addr) (c2 d2:Nat) (ps:List Pl) (ks:List Int) (hc2:ps.length≤c2) (hm2:c2≤maxLen) (hd2:ks.length≤d2) (hn2:d2≤maxLen) (w0:∀x∈ks,isI64 x) (hsp:Sl w w.heap.size A2 (ps.flatMap Wq.decPl)) (hsk:Sl w w.heap.size B2 (ks.flatMap decI)):
 Calls Tryz.prog 3 #[(.agg #[.slice A p.length c,.slice B t.length d]),.agg (n.flatMap fun n=> [.int .u8 n]).toArray,(.agg #[.slice A2 ps.length c2,.slice B2 ks.length d2])] w fun e w'=>e= .returned (.bool true)∧Below w.heap.size w w':=by
 obtain⟨n0,n1,n2,n3,rfl⟩:=list4' hn.1;have u0:=hn.2 n0 (by simp);have u1:=hn.2 n1 (by simp);have u2:=hn.2 n2 (by simp);have u3:=hn.2 n3 (by simp);by_cases h:chk p t=0∧t.length≤8
 ·by_cases hll:ps.length≤20∧ks.length≤200
  ·exact readers_walk p t A B c d w hs ht n0 n1 n2 n3 u0 u1 u2 u3 h.1 h.2 ps ks A2 B2 c2 d2 hll.1 hll.2 (fun x hx=>WalkArith.wf_i64 (w0 x hx)) hsp hsk
  ·exact readers_long p t A B c d w hs ht n0 n1 n2 n3 u0 u1 u2 u3 ps ks A2 B2 c2 d2 (Nat.le_trans hc2 hm2) (Nat.le_trans hd2 hn2) h.1 h.2 (by omega)
 ·exact readers_no p t A B c d w hs ht n0 n1 n2 n3 u3 ps ks A2 B2 c2 d2 (Nat.le_trans hc2 hm2) (Nat.le_trans hd2 hn2) h
end Go.Proofs.YtfmiioddhpkdkaaGreat.Tq
