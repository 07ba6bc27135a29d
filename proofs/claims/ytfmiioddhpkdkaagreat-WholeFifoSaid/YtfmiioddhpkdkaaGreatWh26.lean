/- Merged texts: Wf2, Wf3, Wf4, Wr1, WnP, Wr2, WoM. -/
import Derived.Test.YtfmiioddhpkdkaaGreatWh25
set_option linter.unusedVariables false
set_option linter.unusedSimpArgs false
namespace Go.Proofs.YtfmiioddhpkdkaaGreat.Wf
open Go.RowKit Go.Proofs.YtfmiioddhpkdkaaGreat.Ara Go.Proofs.YtfmiioddhpkdkaaGreat.Lok Go.Proofs.YtfmiioddhpkdkaaGreat.Fl Go.Proofs.YtfmiioddhpkdkaaGreat.Ga Go.Proofs.YtfmiioddhpkdkaaGreat.Sp
def fN (k:Nat)(e:E)(s:St):St:=if isO e.th s then noteP k s e else s
theorem stepP_map {out:List St}{k:Nat}{e:E}(h:out.any (isO e.th)=true):stepP out k e=out.map (fN k e):=by
 unfold stepP;rw[if_pos h];rfl
theorem isO_iff {t:Int}{s:St}:isO t s=true↔s.th=t∧s.re<0:=by unfold isO;rw[Bool.and_eq_true,decide_eq_true_iff,decide_eq_true_iff]
theorem fN_th (k:Nat)(e:E)(s:St):(fN k e s).th=s.th:=by
 unfold fN noteP
 repeat' split
 all_goals rfl
theorem filter_same {q:List Int}{sp sp':List Sp}(h:∀i∈q,(decide ((spOf sp' i).pc<10))=decide ((spOf sp i).pc<10)):q.filter (fun i=>decide ((spOf sp' i).pc<10))=q.filter fun i=>decide ((spOf sp i).pc<10):=List.filter_congr h
section
variable {p:PK}{σ:Ar}{sp:List Sp}{q:List Int}{a b:List St}{k:Nat}{W:List Int}(h:Fi p σ sp q a b k W)
include h
theorem Fi.a_id {t:Int}(ht:(spOf sp t).pc<10)(e:E)(he:e.th=t):a.map (fN k e)=a:=by
 conv=>rhs;rw[←List.map_id a]
 refine List.map_congr_left fun s hs=> ?_;unfold fN;rw[if_neg]
 ·rfl
 ·rw[isO_iff]
  rintro⟨h1,h2⟩;have:=(h.A s hs).2 h2;rw[h1,he]at this;omega
theorem Fi.b_id {t:Int}(ht:10≤(spOf sp t).pc)(e:E)(he:e.th=t):b.map (fN k e)=b:=by
 conv=>rhs;rw[←List.map_id b]
 refine List.map_congr_left fun s hs=> ?_;unfold fN;rw[if_neg]
 ·rfl
 ·rw[isO_iff]
  rintro⟨h1,h2⟩;have:=(h.mem s.th).1 (List.mem_map_of_mem hs);rw[h1,he]at this;omega
variable {σ':Ar}{sp':List Sp}{q':List Int}{W':List Int}{t:Int}(hQ:QuK p σ' sp' q')(ho:∀j,j≠t→spOf sp' j=spOf sp j)
include hQ ho
theorem Fi.quiet (hP:pend sp' q' W'=pend sp q W)(hc:((spOf sp t).pc<10∧(spOf sp' t).pc<10)∨(10<(spOf sp t).pc∧10<(spOf sp' t).pc))(h1:∀u,0<(spOf sp' u).pc→(spOf sp' u).pc≤dr p→u∈W')(h2:W'=[]∨∃u,W'=[u]∧0<(spOf sp' u).pc∧(spOf sp' u).pc≤dr p):Fi p σ' sp' q' a b (k+1) W':=by
 refine⟨hQ,h.srt,fun s hs=>⟨by have:=(h.A s hs).1;omega,fun hr=> ?_⟩,h.B,h.P.trans hP.symm,fun u hu=> ?_,h1,h2⟩
 ·have h3:=(h.A s hs).2 hr
  by_cases e:s.th=t
  ·rw[e]at h3⊢
   omega
  ·rw[ho _ e]
   exact h3
 ·refine h.C u ?_
  by_cases e:u=t
  ·rw[e]at hu⊢
   omega
  ·rw[←ho _ e]
   exact hu
theorem Fi.enter (hP:pend sp q W=t::pend sp' q' W')(hc:(spOf sp t).pc<10∧0<(spOf sp t).pc)(hc':(spOf sp' t).pc=10)(h1:∀u,0<(spOf sp' u).pc→(spOf sp' u).pc≤dr p→u∈W')(h2:W'=[]∨∃u,W'=[u]∧0<(spOf sp' u).pc∧(spOf sp' u).pc≤dr p)(e:E)(he:e.th=t)(hk:e.kind=2):
 ∃a' b',stepP (a++b) k e=a'++b'∧Fi p σ' sp' q' a' b' (k+1) W':=by
 have hnd:=h.nodup;have hb:=h.P.trans hP;cases b with
 |nil=>cases hb
 |cons s b'=>
  injection hb with hs hb';have hs:s.th=t:=hs;rw[List.map_cons]at hnd;have hnd2:=List.nodup_cons.1 hnd;have hsB:=h.B s (List.mem_cons_self ..);have hop:(a++s::b').any (isO e.th)=true:=by rw[he];exact(h.opens t).2 hc.2
  have hfs:fN k e s={s with en:=(k:Int),ct:=e.ct}:=by
   unfold fN noteP;rw[if_pos (isO_iff.2 ⟨by rw[he];exact hs,hsB.2.2⟩),if_pos ⟨hk,hsB.1⟩]
  have hbid:b'.map (fN k e)=b':=by
   conv=>rhs;rw[←List.map_id b']
   refine List.map_congr_left fun x hx=> ?_;unfold fN;rw[if_neg]
   ·rfl
   ·rw[isO_iff]
    rintro⟨h3,-⟩;refine hnd2.1 ?_;rw[show s.th=x.th by rw[hs,h3,he]];exact List.mem_map_of_mem hx
  refine⟨a++ [{s with en:=(k:Int),ct:=e.ct}],b',?_,hQ,?_,?_,?_,hb',?_,h1,h2⟩
  ·rw[stepP_map hop,List.map_append,List.map_cons,h.a_id hc.1 e he,hfs,hbid]
   simp
  ·refine List.pairwise_append.2 ⟨h.srt,by simp,fun x hx y hy=> ?_⟩
   rw[List.mem_singleton]at hy;subst hy;exact(h.A x hx).1.2
  ·intro x hx
   rcases List.mem_append.1 hx with hx|hx
   ·have h3:=h.A x hx
    refine⟨by omega,fun hr=> ?_⟩;have h4:=h3.2 hr;by_cases e2:x.th=t
    ·rw[e2]at h4
     omega
    ·rw[ho _ e2]
     exact h4
   ·rw[List.mem_singleton]at hx
    subst hx;refine⟨⟨by show(0:Int)≤(k:Int);omega,by show(k:Int)<((k+1:Nat):Int);omega⟩,fun _=> .inl ⟨?_,hsB.2.1⟩⟩;show(spOf sp' s.th).pc=10;rw[hs];exact hc'
  ·exact fun x hx=>h.B x (List.mem_cons_of_mem _ hx)
  ·intro u hu
   by_cases e2:u=t
   ·subst e2
    exact⟨{s with en:=(k:Int),ct:=e.ct},by simp,hs,hsB.2.2⟩
   ·rw[ho _ e2]at hu
    obtain⟨x,hx,h3⟩:=h.C u hu;exact⟨x,List.mem_append_left _ hx,h3⟩
theorem Fi.out (hP:pend sp' q' W=pend sp q W)(e:E)(he:e.th=t)(hc:(e.kind=3∧(spOf sp t).pc=10∧10<(spOf sp' t).pc)∨(e.kind=4∧10<(spOf sp t).pc∧(spOf sp' t).pc=0)):
 ∃a' b',stepP (a++b) k e=a'++b'∧Fi p σ' sp' q' a' b' (k+1) W:=by
 have hd:=dr3 h;have hge:10≤(spOf sp t).pc:=by omega
 have hop:(a++b).any (isO e.th)=true:=by rw[he];exact(h.opens t).2 (by omega)
 have hen:∀s,s∈a→(fN k e s).en=s.en:=fun s hs=>by
  unfold fN noteP;have:=(h.A s hs).1;rw[if_neg (show¬(e.kind=2∧s.en<0) by omega)]
  repeat' split
  all_goals rfl
 refine⟨a.map (fN k e),b,?_,hQ,?_,?_,h.B,h.P.trans hP.symm,?_,?_,?_⟩
 ·rw[stepP_map hop,List.map_append,h.b_id hge e he]
 ·rw[List.pairwise_map]
  exact h.srt.imp_of_mem fun hx hy hlt=>by rw[hen _ hx,hen _ hy];exact hlt
 ·intro x hx
  obtain⟨s,hs,rfl⟩:=List.mem_map.1 hx;have h3:=h.A s hs;rw[hen s hs,fN_th];refine⟨by omega,fun hr=> ?_⟩;by_cases e2:s.th=t
  ·rw[e2]
   unfold fN at hr⊢;by_cases hO:s.re<0
   ·have h4:=h3.2 hO
    rw[e2]at h4;rw[if_pos (isO_iff.2 ⟨by rw[he];exact e2,hO⟩)]at hr⊢;unfold noteP at hr⊢;rw[if_neg (show¬(e.kind=2∧s.en<0) by omega)]at hr⊢;rcases hc with⟨c1,c2,c3⟩|⟨c1,c2,c3⟩
    ·rw[if_pos (show e.kind=3∧0≤s.en∧s.ex<0 by omega)]
     exact .inr ⟨c3,by show(0:Int)≤(k:Int);omega⟩
    ·rw[if_neg (show¬(e.kind=3∧0≤s.en∧s.ex<0) by omega),if_pos (show e.kind=4∧0≤s.ex by omega)]at hr
     have hr:(k:Int)<0:=hr;omega
   ·rw[if_neg (fun h5=>hO (isO_iff.1 h5).2)]at hr
    exact absurd hr hO
  ·rw[ho _ e2]
   unfold fN at hr⊢;have hn:¬isO e.th s=true:=fun h5=>e2 ((isO_iff.1 h5).1.trans he);rw[if_neg hn]at hr⊢;exact h3.2 hr
 ·intro u hu
  by_cases e2:u=t
  ·subst e2
   obtain⟨s,hs,h3,hr⟩:=h.C u hge;refine⟨fN k e s,List.mem_map_of_mem hs,(fN_th k e s).trans h3,?_⟩;have h4:=(h.A s hs).2 hr;rw[h3]at h4;unfold fN;rw[if_pos (isO_iff.2 ⟨by rw[he];exact h3,hr⟩)];unfold noteP;have h5:=(h.A s hs).1;rw[if_neg (show¬(e.kind=2∧s.en<0) by omega)];rcases hc with⟨c1,c2,c3⟩|⟨c1,c2,c3⟩
   ·rw[if_pos (show e.kind=3∧0≤s.en∧s.ex<0 by omega)]
    exact hr
   ·omega
  ·rw[ho _ e2]at hu
   obtain⟨s,hs,h3,hr⟩:=h.C u hu;refine⟨fN k e s,List.mem_map_of_mem hs,(fN_th k e s).trans h3,?_⟩;unfold fN;rw[if_neg (fun h5=>e2 (h3.symm.trans ((isO_iff.1 h5).1.trans he)))];exact hr
 ·intro u h1 h2
  by_cases e2:u=t
  ·subst e2
   omega
  ·rw[ho _ e2]at h1 h2
   exact h.W1 u h1 h2
 ·rcases h.W2 with e2|⟨u,e2,h1,h2⟩
  ·exact .inl e2
  ·refine .inr ⟨u,e2,?_⟩
   rw[ho u (fun e3=>by rw[e3]at h2;omega)];exact⟨h1,h2⟩
theorem Fi.asks (hW:W=[])(hq:q'=q)(hc:(spOf sp t).pc=0)(hc':(spOf sp' t).pc=1)(e:E)(he:e.th=t)(hk:e.kind=1):
 ∃a' b',stepP (a++b) k e=a'++b'∧Fi p σ' sp' q' a' b' (k+1) [t]:=by
 subst hq hW;have hd:=dr3 h;have hno:¬(a++b).any (isO e.th)=true:=by rw[he,h.opens t,hc];decide
 have htq:t∉q':=fun hx=>by have:=(h.Q.mem t).1 hx;omega
 refine⟨a,b++ [⟨e.th,e.rd,k,-1,-1,-1,0⟩],?_,hQ,h.srt,fun s hs=>⟨by have:=(h.A s hs).1;omega,fun hr=> ?_⟩,fun s hs=> ?_,?_,fun u hu=> ?_,fun u h1 h2=> ?_,.inr ⟨t,rfl,by omega,by omega⟩⟩
 ·unfold stepP
  rw[if_neg hno,if_pos hk,List.append_assoc]
 ·have h3:=(h.A s hs).2 hr
  rw[ho _ (fun e2=>by rw[e2]at h3;omega)];exact h3
 ·rcases List.mem_append.1 hs with hs|hs
  ·exact h.B s hs
  ·rw[List.mem_singleton]at hs
   subst hs;exact⟨by show(-1:Int)<0;omega,by show(-1:Int)<0;omega,by show(-1:Int)<0;omega⟩
 ·rw[List.map_append,h.P]
  unfold pend;rw[List.append_nil,filter_same (sp:=sp) (sp':=sp') (fun i hi=>by rw[ho i (fun e2=>htq (e2▸hi))])];show _++ [e.th]=_;rw[he]
 ·refine h.C u ?_
  rw[←ho u (fun e2=>by rw[e2]at hu;omega)];exact hu
 ·by_cases e2:u=t
  ·rw[e2];simp
  ·rw[ho _ e2]at h1 h2
   have:=h.W1 u h1 h2;cases this
end
end Go.Proofs.YtfmiioddhpkdkaaGreat.Wf
namespace Go.Proofs.YtfmiioddhpkdkaaGreat.Wf
open Go.RowKit Go.Proofs.YtfmiioddhpkdkaaGreat.Ara Go.Proofs.YtfmiioddhpkdkaaGreat.Lok Go.Proofs.YtfmiioddhpkdkaaGreat.Fl Go.Proofs.YtfmiioddhpkdkaaGreat.Ga Go.Proofs.YtfmiioddhpkdkaaGreat.Sp
theorem gst_one {s:Sp}(h:gst s=1)(h0:0≤s.pc):0<s.pc∧s.pc<10:=by
 unfold gst at h;split at h
 ·omega
 ·split at h
  ·omega
  ·split at h<;>omega
theorem gst_three {s:Sp}(h:gst s=3):10<s.pc:=by
 unfold gst at h;split at h
 ·omega
 ·split at h
  ·omega
  ·split at h
   ·omega
   ·omega
def Fa (p:PK)(σ':Ar)(sp':List Sp)(out:List St)(k:Nat)(W':List Int):Prop:=∃q' a' b',out=a'++b'∧Fi p σ' sp' q' a' b' k W'
section
variable {p:PK}{σ:Ar}{sp:List Sp}{q:List Int}{a b:List St}{k:Nat}{W:List Int}(h:Fi p σ sp q a b k W)
include h
theorem Fi.pc0 (t:Int):0≤(spOf sp t).pc:=by
 have hQ:=h.Q;cases p with
 |tas P=>exact absurd hQ id
 |tic P=>have hQ:Tkq P σ sp q:=hQ;have:=hQ.pcs t;omega
 |par P=>have hQ:Ptq P σ sp q:=hQ;have:=hQ.pcs t;omega
 |mcs P=>have hQ:Mc.Inv P σ sp q:=hQ;have:=mcpcs hQ t;omega
 |clh P=>obtain⟨z,hz⟩:=(show∃z,Cl.Inv P σ sp z q from hQ);have:=clpcs hz t;omega
theorem Fi.step (t:Int)(hg:gst (spOf sp t)=1∨gst (spOf sp t)=3)(hW:W=[]∨W=[t]):
 ∃W',Fa p (doK p σ sp 0 t).2.1 (doK p σ sp 0 t).2.2 (stepP (a++b) k (eOf (if(doK p σ sp 0 t).1 then(if gst (spOf sp t)=1 then(2,t,false,1)else(4,t,false,0))else(0,t,false,0)))) (k+1) W'∧
  (W'=[]∨(W=[t]∧W'=[t]∧(spOf (doK p σ sp 0 t).2.2 t).pc=(spOf sp t).pc+1)):=by
 have hd:=dr3 h;have h0:=h.pc0 t;have hT:=h.Q.step t;have hX:=h.Q.next t;have hrng:=spOf_range (sp:=sp) (i:=t) (by rcases hg with e|e;have:=gst_one e h0;omega;have:=gst_three e;omega);obtain⟨kn,rfl⟩:=Int.eq_ofNat_of_zero_le hrng.1;have hkn:kn<sp.length:=by omega
 obtain⟨s',hs'⟩:=do_set p σ sp kn hkn
 have ho:∀j,j≠(kn:Int)→spOf (doK p σ sp 0 (kn:Int)).2.2 j=spOf sp j:=fun j hj=>by
  rw[hs'];have:=spOf_set hrng.1 hrng.2 s' j;rw[Int.toNat_natCast]at this;rw[this,if_neg hj]
 obtain⟨x1,x2,x3,x4,x5,x6⟩:=hX;generalize hr:doK p σ sp 0 (kn:Int)=r at*;obtain⟨bo,σ',sp'⟩:=r;simp only at hT ho x1 x2 x3 x4 x5 x6⊢;clear hr hs';unfold QTurn at hT;simp only at hT
 have fcong:∀(l:List Int),(∀i∈l,i≠(kn:Int)∨((spOf sp (kn:Int)).pc<10↔(spOf sp' (kn:Int)).pc<10))→l.filter (fun i=>decide ((spOf sp' i).pc<10))=l.filter fun i=>decide ((spOf sp i).pc<10):=fun l hl=>filter_same fun i hi=>by
  rcases hl i hi with e|e
  ·rw[ho i e]
  ·by_cases e2:i=(kn:Int)
   ·rw[e2,Bool.eq_iff_iff,decide_eq_true_iff,decide_eq_true_iff]
    exact e.symm
   ·rw[ho i e2]
 rcases hg with hg|hg
 ·
  have hc:=gst_one hg h0;by_cases hlt:(spOf sp (kn:Int)).pc<dr p
  ·obtain⟨e1,e2⟩:=x3 hc.1 hlt
   have hq:QuK p σ' sp' q:=by
    rcases hT with⟨h1,_⟩|⟨h1,_⟩|⟨_,_,h1⟩
    ·omega
    ·omega
    ·exact h1
   have htW:(kn:Int)∈W:=h.W1 _ hc.1 (by omega)
   have hW2:W=[(kn:Int)]:=by
    rcases hW with e|e
    ·rw[e]at htW;cases htW
    ·exact e
   subst hW2;subst e2;refine⟨[(kn:Int)],⟨q,a,b,stepP_id (.inl rfl),h.quiet hq ho ?_ (.inl ⟨hc.2,by omega⟩) (fun u h1 h2=> ?_) (.inr ⟨_,rfl,by omega,by omega⟩)⟩,.inr ⟨rfl,rfl,e1⟩⟩
   ·unfold pend
    rw[fcong q (fun i _=> .inr (by omega))]
   ·by_cases e2:u=(kn:Int)
    ·rw[e2];simp
    ·rw[ho _ e2]at h1 h2
     exact h.W1 u h1 h2
  ·by_cases heq:(spOf sp (kn:Int)).pc=dr p
   ·have htW:(kn:Int)∈W:=h.W1 _ hc.1 (by omega)
    have hW2:W=[(kn:Int)]:=by
     rcases hW with e|e
     ·rw[e]at htW;cases htW
     ·exact e
    subst hW2
    have hq:QuK p σ' sp' (q++ [(kn:Int)]):=by
     rcases hT with⟨_,h1⟩|⟨h1,_⟩|⟨h1,_⟩
     ·exact h1
     ·omega
     ·exact absurd heq h1
    have hnq:(kn:Int)∉q:=fun hx=>by have:=(h.Q.mem _).1 hx;omega
    have hno:∀u,0<(spOf sp' u).pc→(spOf sp' u).pc≤dr p→dr p<(spOf sp' (kn:Int)).pc→u∈([]:List Int):=fun u h1 h2 h3=>by
     by_cases e2:u=(kn:Int)
     ·rw[e2]at h2;omega
     ·rw[ho _ e2]at h1 h2
      have:=h.W1 u h1 h2;rw[List.mem_singleton]at this;exact absurd this e2
    rcases x4 hc.1 heq with⟨e1,e2,e3,_⟩|⟨e1,e2,e3⟩
    ·subst e1 e3
     rw[if_pos rfl,if_pos hg];obtain⟨a',b',e4,h4⟩:=h.enter (W':=[]) hq ho (by unfold pend;simp[e2]) ⟨hc.2,hc.1⟩ e2 (fun u h1 h2=>hno u h1 h2 (by omega)) (.inl rfl) (eOf (2,(kn:Int),false,1)) rfl rfl;exact⟨[],⟨_,a',b',e4,h4⟩,.inl rfl⟩
    ·subst e3
     refine⟨[],⟨_,a,b,stepP_id (.inl rfl),h.quiet hq ho ?_ (.inl ⟨hc.2,e2⟩) (fun u h1 h2=>hno u h1 h2 e1) (.inl rfl)⟩,.inl rfl⟩;unfold pend;rw[List.filter_append,fcong q (fun i hi=> .inl (fun e4=>hnq (e4▸hi))),List.append_nil];simp[e2]
   ·have hgt:dr p<(spOf sp (kn:Int)).pc:=by omega
    have hq:QuK p σ' sp' q:=by
     rcases hT with⟨h1,_⟩|⟨h1,_⟩|⟨_,_,h1⟩
     ·omega
     ·omega
     ·exact h1
    have htW:(kn:Int)∉W:=fun hx=>by
     rcases h.W2 with e|⟨u,e,h1,h2⟩
     ·rw[e]at hx;cases hx
     ·rw[e,List.mem_singleton]at hx
      rw[←hx]at h2;omega
    have hW2:W=[]:=by
     rcases hW with e|e
     ·exact e
     ·rw[e]at htW
      exact absurd (List.mem_singleton.2 rfl) htW
    subst hW2
    have hno:dr p<(spOf sp' (kn:Int)).pc→∀u,0<(spOf sp' u).pc→(spOf sp' u).pc≤dr p→u∈([]:List Int):=fun h3 u h1 h2=>by
     by_cases e2:u=(kn:Int)
     ·rw[e2]at h2;omega
     ·rw[ho _ e2]at h1 h2
      exact h.W1 u h1 h2
    obtain⟨y1,y2⟩:=x5 hgt hc.2;by_cases hf:q.head? =some (kn:Int)
    ·obtain⟨e1,e2⟩:=y1 hf
     subst e2;rw[if_pos rfl,if_pos hg]
     obtain⟨a',b',e4,h4⟩:=h.enter (W':=[]) hq ho (by
      cases q with
      |nil=>cases hf
      |cons x r=>
       injection hf with hf;subst hf;have hnd:=List.nodup_cons.1 h.Q.nodup;unfold pend;rw[List.filter_cons_of_pos (by simp[hc.2]),List.filter_cons_of_neg (by simp[e1]),fcong r (fun i hi=> .inl (fun e4=>hnd.1 (e4▸hi)))];rfl) ⟨hc.2,hc.1⟩ e1 (hno (by omega)) (.inl rfl) (eOf (2,(kn:Int),false,1)) rfl rfl
     exact⟨[],⟨_,a',b',e4,h4⟩,.inl rfl⟩
    ·obtain⟨e1,e2⟩:=y2 hf
     subst e1;refine⟨[],⟨_,a,b,stepP_id (.inl rfl),h.quiet hq ho ?_ (.inl ⟨hc.2,by omega⟩) (hno (by omega)) (.inl rfl)⟩,.inl rfl⟩;unfold pend;rw[fcong q (fun i _=> .inr (by omega))]
 ·
  have hc:=gst_three hg
  have htW:(kn:Int)∉W:=fun hx=>by
   rcases h.W2 with e|⟨u,e,h1,h2⟩
   ·rw[e]at hx;cases hx
   ·rw[e,List.mem_singleton]at hx
    rw[←hx]at h2;omega
  have hW2:W=[]:=by
   rcases hW with e|e
   ·exact e
   ·rw[e]at htW
    exact absurd (List.mem_singleton.2 rfl) htW
  subst hW2;rcases x6 hc with⟨e1,e2⟩|⟨e1,e2,e3,e4⟩
  ·subst e1
   obtain⟨r,rfl,hq⟩:∃r,q=(kn:Int)::r∧QuK p σ' sp' r:=by
    rcases hT with⟨h1,_⟩|⟨_,_,r,h1,h2⟩|⟨_,h1,_⟩
    ·omega
    ·exact⟨r,h1,h2⟩
    ·exact absurd ⟨hc,rfl⟩ h1
   have hnd:=List.nodup_cons.1 h.Q.nodup;rw[if_pos rfl,if_neg (by rw[hg];decide)]
   obtain⟨a',b',e4,h4⟩:=h.out hq ho (by
    unfold pend;rw[List.filter_cons_of_neg (by simp;omega),fcong r (fun i hi=> .inl (fun e4=>hnd.1 (e4▸hi)))]) (eOf (4,(kn:Int),false,0)) rfl (.inr ⟨rfl,hc,e2⟩)
   exact⟨[],⟨_,a',b',e4,h4⟩,.inl rfl⟩
  ·subst e1
   have hq:QuK p σ' sp' q:=by
    rcases hT with⟨h1,_⟩|⟨_,h1,_⟩|⟨_,_,h1⟩
    ·omega
    ·cases h1
    ·exact h1
   refine⟨[],⟨_,a,b,stepP_id (.inl rfl),h.quiet hq ho ?_ (.inr ⟨hc,e2⟩) (fun u h1 h2=> ?_) (.inl rfl)⟩,.inl rfl⟩
   ·unfold pend
    rw[fcong q (fun i _=> .inr (by omega))]
   ·by_cases e5:u=(kn:Int)
    ·rw[e5]at h2;omega
    ·rw[ho _ e5]at h1 h2
     exact h.W1 u h1 h2
end
end Go.Proofs.YtfmiioddhpkdkaaGreat.Wf
namespace Go.Proofs.YtfmiioddhpkdkaaGreat.Wf
open Go.RowKit Go.Proofs.YtfmiioddhpkdkaaGreat.Ara Go.Proofs.YtfmiioddhpkdkaaGreat.Lok Go.Proofs.YtfmiioddhpkdkaaGreat.Fl Go.Proofs.YtfmiioddhpkdkaaGreat.Ga Go.Proofs.YtfmiioddhpkdkaaGreat.Sp
theorem gst_dr {s:Sp}(h0:0<s.pc)(h1:s.pc<10):gst s=1:=gst_1 ⟨by omega,h1⟩
section
variable {p:PK}{σ:Ar}{sp:List Sp}{q:List Int}{a b:List St}{k:Nat}{W:List Int}(h:Fi p σ sp q a b k W)
include h
theorem Fi.any (t w:Int)(hW:W=[]∨(W=[t]∧w=0)):
 ∃W',Fa p (fact p σ sp t w).2.1 (fact p σ sp t w).2.2 (stepP (a++b) k (eOf (fact p σ sp t w).1)) (k+1) W'∧
  (W'=[]∨(W'=[t]∧((w=1∧(spOf (fact p σ sp t w).2.2 t).pc=1)∨(w=0∧W=[t]∧(spOf (fact p σ sp t w).2.2 t).pc=(spOf sp t).pc+1)))):=by
 have hd:=dr3 h;have idle:∀(e:Ev4),(e.1=0∨e.1=5)→W=[]→∃W',Fa p σ sp (stepP (a++b) k (eOf e)) (k+1) W'∧W'=[]:=fun e he hw=>⟨[],⟨q,a,b,stepP_id he,by have:=h.up;rw[hw]at this;exact this⟩,rfl⟩
 have came:W=[t]→gst (spOf sp t)=1∧0≤t∧t<sp.length:=fun e=>by
  rcases h.W2 with e2|⟨u,e2,h1,h2⟩
  ·rw[e2]at e;cases e
  ·rw[e2]at e
   injection e with e3;subst e3;exact⟨gst_dr h1 (by omega),spOf_range (by omega)⟩
 unfold fact;by_cases hr:t<0∨(sp.length:Int)≤t
 ·rw[if_pos hr]
  rcases hW with e|⟨e,_⟩
  ·obtain⟨W',h1,h2⟩:=idle (0,0,false,0) (.inl rfl) e
   exact⟨W',h1,.inl h2⟩
  ·have:=came e
   omega
 rw[if_neg hr];by_cases h0:w=0
 ·rw[if_pos h0]
  by_cases hg:gst (spOf sp t)=1∨gst (spOf sp t)=3
  ·rw[if_pos hg]
   obtain⟨W',h1,h2⟩:=h.step t hg (by rcases hW with e|e;exact .inl e;exact .inr e.1);refine⟨W',h1,?_⟩;rcases h2 with e|⟨e1,e2,e3⟩
   ·exact .inl e
   ·exact .inr ⟨e2,.inr ⟨h0,e1,e3⟩⟩
  ·rw[if_neg hg]
   rcases hW with e|⟨e,_⟩
   ·obtain⟨W',h1,h2⟩:=idle (0,t,false,0) (.inl rfl) e
    exact⟨W',h1,.inl h2⟩
   ·exact absurd (.inl (came e).1) hg
 rw[if_neg h0]
 have hW0:W=[]:=by
  rcases hW with e|⟨_,e⟩
  ·exact e
  ·exact absurd e h0
 obtain⟨kn,rfl⟩:=Int.eq_ofNat_of_zero_le (show 0≤t by omega);have hkn:kn<sp.length:=by omega
 have hoth:∀s',∀j,j≠(kn:Int)→spOf (sp.set kn s') j=spOf sp j:=fun s' j hj=>by
  have:=spOf_set (sp:=sp) (i:=(kn:Int)) (by omega) (by omega) s' j;rw[Int.toNat_natCast]at this;rw[this,if_neg hj]
 have hself:∀s',spOf (sp.set kn s') (kn:Int)=s':=fun s'=>by
  have:=spOf_set (sp:=sp) (i:=(kn:Int)) (by omega) (by omega) s' (kn:Int);rw[Int.toNat_natCast]at this;rw[this,if_pos rfl]
 by_cases h1:w=1
 ·rw[if_pos h1]
  rcases fturn p σ sp kn hkn with⟨e1,s',e2,e3⟩|⟨e1,e2⟩
  ·have hQ:=h.Q.ask (kn:Int)
   rw[e2]at hQ⊢;rw[if_pos rfl];obtain⟨a',b',e4,h4⟩:=h.asks (t:=(kn:Int)) (q':=q) hQ (hoth s') hW0 rfl (by rw[spOf_in hkn];exact e1) (by rw[hself];exact e3) (eOf (1,(kn:Int),false,0)) rfl rfl;exact⟨[(kn:Int)],⟨q,a',b',e4,h4⟩,.inr ⟨rfl,.inl ⟨h1,by show(spOf (sp.set kn s') _).pc=1;rw[hself];exact e3⟩⟩⟩
  ·rw[e2,if_neg (show¬(false=true) by decide)]
   obtain⟨W',h2,h3⟩:=idle (5,(kn:Int),false,0) (.inr rfl) hW0;exact⟨W',h2,.inl h3⟩
 rw[if_neg h1];by_cases h2:w=2
 ·rw[if_pos h2]
  rcases fleave p σ sp kn hkn with⟨e1,s',e2,e3⟩|⟨e1,e2⟩
  ·have hQ:=h.Q.leave (kn:Int)
   have hpc:(spOf sp (kn:Int)).pc=10:=by rw[spOf_in hkn];exact e1
   rw[e2]at hQ⊢;rw[if_pos rfl];subst hW0
   obtain⟨a',b',e4,h4⟩:=h.out (t:=(kn:Int)) (q':=q) hQ (hoth s') (by
    unfold pend
    rw[filter_same (sp:=sp) (sp':=sp.set kn s') (fun i _=>by
     by_cases e5:i=(kn:Int)
     ·rw[e5,hself,hpc,e3];decide
     ·rw[hoth s' i e5])]) (eOf (3,(kn:Int),false,0)) rfl (.inl ⟨rfl,hpc,by rw[hself,e3];decide⟩)
   exact⟨[],⟨q,a',b',e4,h4⟩,.inl rfl⟩
  ·rw[e2,if_neg (show¬(false=true) by decide)]
   obtain⟨W',h3,h4⟩:=idle (5,(kn:Int),false,0) (.inr rfl) hW0;exact⟨W',h3,.inl h4⟩
 rw[if_neg h2];obtain⟨W',h3,h4⟩:=idle (5,(kn:Int),false,0) (.inr rfl) hW0;exact⟨W',h3,.inl h4⟩
end
theorem outP_app (l r:List E):∀k,k≤l.length→outP (l++r) k=outP l k
 |0,_=>rfl
 |k+1,hk=>by
  show stepP (outP (l++r) k) k ((l++r).getD k e0)=stepP (outP l k) k (l.getD k e0);rw[outP_app l r k (by omega)];congr 1;rw[List.getD_eq_getElem?_getD,List.getD_eq_getElem?_getD,List.getElem?_append_left (by omega)]
theorem outP_snoc (l:List E)(e:E):outP (l++ [e]) (l++ [e]).length=stepP (outP l l.length) l.length e:=by
 rw[List.length_append,List.length_singleton];show stepP (outP (l++ [e]) l.length) l.length ((l++ [e]).getD l.length e0)=_;rw[outP_app l [e] _ (Nat.le_refl _)];congr 1;rw[List.getD_eq_getElem?_getD,List.getElem?_append_right (Nat.le_refl _),Nat.sub_self];rfl
abbrev Rs:=(Ar×List Sp)×List E
def fstp (p:PK)(s:Rs)(x:Int×Int):Rs:=((fact p s.1.1 s.1.2 x.1 x.2).2,s.2++ [eOf (fact p s.1.1 s.1.2 x.1 x.2).1])
def FaR (p:PK)(s:Rs)(W:List Int):Prop:=Fa p s.1.1 s.1.2 (outP s.2 s.2.length) s.2.length W
theorem far_step {p:PK}{s:Rs}{W:List Int}(h:FaR p s W)(t w:Int)(hW:W=[]∨(W=[t]∧w=0)):
 ∃W',FaR p (fstp p s (t,w)) W'∧(W'=[]∨(W'=[t]∧((w=1∧(spOf (fstp p s (t,w)).1.2 t).pc=1)∨(w=0∧W=[t]∧(spOf (fstp p s (t,w)).1.2 t).pc=(spOf s.1.2 t).pc+1)))):=by
 obtain⟨q,a,b,e,hf⟩:=h;obtain⟨W',h1,h2⟩:=hf.any t w hW;refine⟨W',?_,h2⟩;unfold FaR;rw[show(fstp p s (t,w)).2=s.2++ [eOf (fact p s.1.1 s.1.2 t w).1] from rfl,outP_snoc,e,List.length_append,List.length_singleton];exact h1
def fpick (p:PK)(s:Rs)(x:Int×Int):Rs:=
 if x.2=1 then fstp p (fstp p (fstp p (fstp p s x) (x.1,0)) (x.1,0)) (x.1,0)else fstp p s x
theorem far_pick {p:PK}{s:Rs}(h:FaR p s [])(x:Int×Int):FaR p (fpick p s x) []:=by
 obtain⟨t,w⟩:=x;unfold fpick
 have hd:∃W',FaR p (fstp p s (t,w)) W':=by
  obtain⟨W',h1,_⟩:=far_step h t w (.inl rfl);exact⟨W',h1⟩
 by_cases hw:w=1
 ·rw[if_pos hw]
  have go:∀(s:Rs) (j:Int) (W:List Int),FaR p s W→(W=[]∨(W=[t]∧(spOf s.1.2 t).pc=j))→∃W',FaR p (fstp p s (t,0)) W'∧(W'=[]∨(W'=[t]∧(spOf (fstp p s (t,0)).1.2 t).pc=j+1)):=fun s j W hs hW=>by
   obtain⟨W',h1,h2⟩:=far_step hs t 0 (by rcases hW with e|e;exact .inl e;exact .inr ⟨e.1,rfl⟩);refine⟨W',h1,?_⟩;rcases h2 with e|⟨e1,⟨e2,_⟩|⟨_,e3,e4⟩⟩
   ·exact .inl e
   ·cases e2
   ·rcases hW with e|⟨_,e⟩
    ·rw[e]at e3;cases e3
    ·exact .inr ⟨e1,by rw[e4,e]⟩
  obtain⟨W1,g1,k1⟩:=far_step h t w (.inl rfl)
  have k1:W1=[]∨(W1=[t]∧(spOf (fstp p s (t,w)).1.2 t).pc=1):=by
   rcases k1 with e|⟨e1,⟨_,e2⟩|⟨_,e2,_⟩⟩
   ·exact .inl e
   ·exact .inr ⟨e1,e2⟩
   ·cases e2
  obtain⟨W2,g2,k2⟩:=go _ _ _ g1 k1;obtain⟨W3,g3,k3⟩:=go _ _ _ g2 k2;obtain⟨W4,g4,k4⟩:=go _ _ _ g3 k3;rcases k4 with e|⟨e1,e2⟩
  ·rw[e]at g4
   exact g4
  ·exfalso
   obtain⟨q,a,b,_,hf⟩:=g4;have hd:=dr3 hf;rcases hf.W2 with e|⟨u,e,h1,h2⟩
   ·rw[e]at e1;cases e1
   ·rw[e]at e1
    injection e1 with e1;subst e1;omega
 ·rw[if_neg hw]
  obtain⟨W',h1,h2⟩:=far_step h t w (.inl rfl);rcases h2 with e|⟨_,⟨e,_⟩|⟨_,e,_⟩⟩
  ·rw[e]at h1
   exact h1
  ·exact absurd e hw
  ·cases e
def frun (p:PK)(s:Rs)(l:List (Int×Int)):Rs:=l.foldl (fpick p) s
theorem far_run {p:PK}:∀(l:List (Int×Int)) {s:Rs},FaR p s []→FaR p (frun p s l) []
 |[],_,h=>h
 |x::l,_,h=>far_run l (far_pick h x)
def ent (n:Nat)(s:St):Int:=if s.en<0 then(n:Int)else s.en
theorem far_sorted {p:PK}{s:Rs}(h:FaR p s []):(outP s.2 s.2.length).Pairwise fun x y=>ent s.2.length x≤ent s.2.length y:=by
 obtain⟨q,a,b,e,hf⟩:=h;rw[e]
 have ha:∀x∈a,ent s.2.length x=x.en:=fun x hx=>by
  unfold ent;rw[if_neg (by have:=(hf.A x hx).1;omega)]
 have hb:∀x∈b,ent s.2.length x=(s.2.length:Int):=fun x hx=>by
  unfold ent;rw[if_pos (hf.B x hx).1]
 refine List.pairwise_append.2 ⟨hf.srt.imp_of_mem fun hx hy hlt=>by rw[ha _ hx,ha _ hy];omega,?_,fun x hx y hy=> ?_⟩
 ·exact List.Pairwise.imp_of_mem (R:=fun _ _=>True) (fun hx hy _=>by rw[hb _ hx,hb _ hy];exact Int.le_refl _) (List.pairwise_of_forall (fun _ _=>trivial))
 ·rw[ha x hx,hb y hy]
  have:=(hf.A x hx).1;omega
end Go.Proofs.YtfmiioddhpkdkaaGreat.Wf
namespace Go.Proofs.YtfmiioddhpkdkaaGreat.Wr
open Go.RowKit Go.Proofs.YtfmiioddhpkdkaaGreat.Ara Go.Proofs.YtfmiioddhpkdkaaGreat.Lok Go.Proofs.YtfmiioddhpkdkaaGreat.Fl Go.Proofs.YtfmiioddhpkdkaaGreat.Ga Go.Proofs.YtfmiioddhpkdkaaGreat.Sp Go.Proofs.YtfmiioddhpkdkaaGreat.Wf
def lastR (m:Int):Int:=if m=3 then 3 else 2
def rnext (m pc:Int):Int:=if pc=lastR m then 10 else pc+1
def ract (m:Int)(sp:List Sp)(t w:Int):Ev4×List Sp:=
 if t<0∨(sp.length:Int)≤t then((0,0,false,0),sp)
 else if w=0 then
  if gst (spOf sp t)=1 then(if rnext m (spOf sp t).pc=10 then(2,t,true,1)else(0,t,true,0),sp.set t.toNat {spOf sp t with pc:=rnext m (spOf sp t).pc})
  else if gst (spOf sp t)=3 then((4,t,true,0),sp.set t.toNat {spOf sp t with pc:=0})
  else((0,t,decide (gst (spOf sp t)=2),0),sp)
 else if w=3 then(if(spOf sp t).pc=0 then((1,t,true,0),sp.set t.toNat ⟨1,1,0,0⟩)else((5,t,true,0),sp))
 else if w=4 then(if(spOf sp t).pc=10 then((3,t,true,0),sp.set t.toNat {spOf sp t with pc:=11})else((5,t,decide ((spOf sp t).pc≠0),0),sp))
 else((5,t,decide ((spOf sp t).pc≠0),0),sp)
def own (ks:List Int)(a b:Nat)(t:Int):Nat:=((ks.take b).drop (a+1)).count t
theorem own_snoc {ks:List Int}{a k:Nat}{t x:Int}(hk:k=ks.length)(ha:a<k):own (ks++ [x]) a (k+1) t=own ks a k t+(if x=t then 1 else 0):=by
 subst hk;unfold own;rw[List.take_of_length_le (show(ks++ [x]).length≤ks.length+1 by simp),List.take_of_length_le (Nat.le_refl _),List.drop_append_of_le_length (by omega),List.count_append,List.count_singleton];by_cases e:x=t
 ·rw[e];simp
 ·simp[e]
theorem own_app {ks r:List Int}{a b:Nat}{t:Int}(hb:b≤ks.length):own (ks++r) a b t=own ks a b t:=by
 unfold own;rw[List.take_append_of_le_length hb]
theorem own_self (ks:List Int)(a:Nat)(t:Int):own ks a (a+1) t=0:=by
 unfold own;rw[List.drop_eq_nil_of_le (by rw[List.length_take];omega)];rfl
structure Ri (m:Int)(sp:List Sp)(out:List St)(ks:List Int):Prop where
 pcs:∀t,(spOf sp t).pc=0∨(1≤(spOf sp t).pc∧(spOf sp t).pc≤lastR m)∨(spOf sp t).pc=10∨(spOf sp t).pc=11
 A:∀s∈out,∃a:Nat,s.ask=(a:Int)∧a<ks.length∧
  (s.en<0→s.re<0∧s.ex<0∧0<(spOf sp s.th).pc∧(spOf sp s.th).pc<10∧(own ks a ks.length s.th:Int)=(spOf sp s.th).pc-1)∧
  (0≤s.en→(∃n:Nat,s.en=(n:Int)∧n<ks.length∧own ks a n s.th≤2)∧(s.re<0→((spOf sp s.th).pc=10∧s.ex<0)∨((spOf sp s.th).pc=11∧0≤s.ex)))
 C:∀t,0<(spOf sp t).pc→∃s∈out,s.th=t∧s.re<0
theorem lastR_in (m:Int):2≤lastR m∧lastR m≤3:=by unfold lastR;split<;>omega
section
variable {m:Int}{sp:List Sp}{out:List St}{ks:List Int}(h:Ri m sp out ks)
include h
theorem Ri.opens (t:Int):out.any (isO t)=true↔0<(spOf sp t).pc:=by
 rw[List.any_eq_true];constructor
 ·rintro⟨s,hs,h1⟩
  rw[isO_iff]at h1;obtain⟨a,_,_,h2,h3⟩:=h.A s hs;rw[←h1.1];by_cases h4:s.en<0
  ·exact(h2 h4).2.2.1
  ·have:=(h3 (by omega)).2 h1.2
   omega
 ·intro h1
  obtain⟨s,hs,e,hr⟩:=h.C t h1;exact⟨s,hs,isO_iff.2 ⟨e,hr⟩⟩
theorem Ri.keep {x:Int}(hx:¬(0<(spOf sp x).pc∧(spOf sp x).pc<10)):Ri m sp out (ks++ [x]):=by
 refine⟨h.pcs,fun s hs=> ?_,h.C⟩;obtain⟨a,h1,h2,h3,h4⟩:=h.A s hs;refine⟨a,h1,by rw[List.length_append];omega,fun he=> ?_,fun he=> ?_⟩
 ·obtain⟨g1,g2,g3,g4,g5⟩:=h3 he
  refine⟨g1,g2,g3,g4,?_⟩;rw[List.length_append,List.length_singleton,own_snoc rfl h2,if_neg (fun e=>hx (by rw[e];exact⟨g3,g4⟩))];exact g5
 ·obtain⟨⟨n,g1,g2,g3⟩,g4⟩:=h4 he
  exact⟨⟨n,g1,by rw[List.length_append];omega,by rw[own_app (Nat.le_of_lt g2)];exact g3⟩,g4⟩
omit h in
theorem spOf_at {t:Int}(ht:0≤t∧t<sp.length)(s':Sp)(j:Int):spOf (sp.set t.toNat s') j=if j=t then s' else spOf sp j:=spOf_set ht.1 ht.2 s' j
theorem Ri.asks {t:Int}(ht:0≤t∧t<sp.length)(hc:(spOf sp t).pc=0):Ri m (sp.set t.toNat ⟨1,1,0,0⟩) (stepP out ks.length (eOf (1,t,true,0))) (ks++ [t]):=by
 have hl:=lastR_in m;have hno:¬out.any (isO (eOf (1,t,true,0)).th)=true:=by rw[show(eOf (1,t,true,0)).th=t from rfl,h.opens t,hc];decide
 have hself:spOf (sp.set t.toNat ⟨1,1,0,0⟩) t=⟨1,1,0,0⟩:=by rw[spOf_at ht,if_pos rfl]
 have hoth:∀j,j≠t→spOf (sp.set t.toNat ⟨1,1,0,0⟩) j=spOf sp j:=fun j hj=>by rw[spOf_at ht,if_neg hj]
 have hst:stepP out ks.length (eOf (1,t,true,0))=out++ [⟨t,true,ks.length,-1,-1,-1,0⟩]:=by
  unfold stepP;rw[if_neg hno];rfl
 rw[hst];have hk:=h.keep (x:=t) (by omega);refine⟨fun j=> ?_,fun s hs=> ?_,fun j hj=> ?_⟩
 ·by_cases e:j=t
  ·rw[e,hself];exact .inr (.inl ⟨by decide,by show(1:Int)≤_;omega⟩)
  ·rw[hoth j e];exact h.pcs j
 ·rcases List.mem_append.1 hs with hs|hs
  ·obtain⟨a,h1,h2,h3,h4⟩:=hk.A s hs
   refine⟨a,h1,h2,fun he=> ?_,fun he=> ?_⟩
   ·have g:=h3 he
    rw[hoth s.th (fun e=>by rw[e]at g;omega)];exact g
   ·have g:=h4 he
    refine⟨g.1,fun hr=> ?_⟩;have g2:=g.2 hr;rw[hoth s.th (fun e=>by rw[e]at g2;omega)];exact g2
  ·rw[List.mem_singleton]at hs
   subst hs;refine⟨ks.length,rfl,by simp,fun _=>⟨by show(-1:Int)<0;omega,by show(-1:Int)<0;omega,?_,?_,?_⟩,fun he=> ?_⟩
   ·show 0<(spOf _ t).pc;rw[hself];decide
   ·show(spOf _ t).pc<10;rw[hself];decide
   ·show((own (ks++ [t]) ks.length (ks++ [t]).length t:Nat):Int)=(spOf _ t).pc-1
    rw[hself,List.length_append,List.length_singleton,own_self];rfl
   ·have he:(0:Int)≤-1:=he
    omega
 ·by_cases e:j=t
  ·exact⟨⟨t,true,ks.length,-1,-1,-1,0⟩,by simp,e.symm,by show(-1:Int)<0;omega⟩
  ·rw[hoth j e]at hj
   obtain⟨s,hs,g⟩:=h.C j hj;exact⟨s,List.mem_append_left _ hs,g⟩
theorem Ri.turn {t:Int}(ht:0≤t∧t<sp.length)(s':Sp)(e:E)(he:e.th=t)
 (hc:(e.kind=0∧1≤(spOf sp t).pc∧(spOf sp t).pc<lastR m∧s'.pc=(spOf sp t).pc+1)∨(e.kind=2∧(spOf sp t).pc=lastR m∧s'.pc=10)∨(e.kind=3∧(spOf sp t).pc=10∧s'.pc=11)∨(e.kind=4∧(spOf sp t).pc=11∧s'.pc=0)):
 Ri m (sp.set t.toNat s') (stepP out ks.length e) (ks++ [t]):=by
 have hl:=lastR_in m;have hpc:0<(spOf sp t).pc:=by omega
 have hop:out.any (isO e.th)=true:=by rw[he];exact(h.opens t).2 hpc
 rw[stepP_map hop];have hself:spOf (sp.set t.toNat s') t=s':=by rw[spOf_at ht,if_pos rfl]
 have hoth:∀j,j≠t→spOf (sp.set t.toNat s') j=spOf sp j:=fun j hj=>by rw[spOf_at ht,if_neg hj]
 refine⟨fun j=> ?_,fun x hx=> ?_,fun j hj=> ?_⟩
 ·by_cases e2:j=t
  ·rw[e2,hself];omega
  ·rw[hoth j e2];exact h.pcs j
 ·obtain⟨s,hs,rfl⟩:=List.mem_map.1 hx
  obtain⟨a,h1,h2,h3,h4⟩:=h.A s hs;rw[fN_th];by_cases hO:isO e.th s=true
  ·have hO2:=isO_iff.1 hO
   have hst:s.th=t:=hO2.1.trans he;have hf:fN ks.length e s=noteP ks.length s e:=by unfold fN;rw[if_pos hO]
   rw[hf,hst,hself];rw[hst]at h3 h4;unfold noteP;by_cases hen:s.en<0
   ·obtain⟨g1,g2,g3,g4,g5⟩:=h3 hen
    rcases hc with⟨c1,c2,c3,c4⟩|⟨c1,c2,c3⟩|⟨c1,c2,c3⟩|⟨c1,c2,c3⟩
    ·rw[if_neg (by omega),if_neg (by omega),if_neg (by omega)]
     refine⟨a,h1,by rw[List.length_append];omega,fun _=>⟨g1,g2,by omega,by omega,?_⟩,fun hx=>by omega⟩;rw[List.length_append,List.length_singleton,own_snoc rfl h2,if_pos rfl];omega
    ·rw[if_pos ⟨c1,hen⟩]
     refine⟨a,h1,by rw[List.length_append];omega,fun hx=> ?_,fun _=>⟨⟨ks.length,rfl,by simp,?_⟩,fun _=> .inl ⟨c3,g2⟩⟩⟩
     ·have hx:(ks.length:Int)<0:=hx
      omega
     ·rw[own_app (Nat.le_refl _)]
      omega
    ·omega
    ·omega
   ·obtain⟨⟨n,g1,g2,g3⟩,g4⟩:=h4 (by omega)
    have g5:=g4 hO2.2;have g6:own (ks++ [t]) a n t≤2:=by rw[own_app (Nat.le_of_lt g2)];exact g3
    rcases hc with⟨c1,c2,c3,c4⟩|⟨c1,c2,c3⟩|⟨c1,c2,c3⟩|⟨c1,c2,c3⟩
    ·omega
    ·omega
    ·rw[if_neg (by omega),if_pos (by omega)]
     exact⟨a,h1,by rw[List.length_append];omega,fun hx=>absurd hx hen,fun _=>⟨⟨n,g1,by rw[List.length_append];omega,g6⟩,fun _=> .inr ⟨c3,by show(0:Int)≤(ks.length:Int);omega⟩⟩⟩
    ·rw[if_neg (by omega),if_neg (by omega),if_pos (by omega)]
     refine⟨a,h1,by rw[List.length_append];omega,fun hx=>absurd hx hen,fun _=>⟨⟨n,g1,by rw[List.length_append];omega,g6⟩,fun hr=> ?_⟩⟩;have hr:(ks.length:Int)<0:=hr;omega
  ·have hf:fN ks.length e s=s:=by unfold fN;rw[if_neg hO]
   rw[hf];by_cases hst:s.th=t
   ·have hr:¬s.re<0:=fun hr=>hO (isO_iff.2 ⟨hst.trans he.symm,hr⟩)
    by_cases hen:s.en<0
    ·exact absurd (h3 hen).1 hr
    ·obtain⟨⟨n,g1,g2,g3⟩,_⟩:=h4 (by omega)
     exact⟨a,h1,by rw[List.length_append];omega,fun hx=>absurd hx hen,fun _=>⟨⟨n,g1,by rw[List.length_append];omega,by rw[own_app (Nat.le_of_lt g2)];exact g3⟩,fun hr2=>absurd hr2 hr⟩⟩
   ·rw[hoth s.th hst]
    refine⟨a,h1,by rw[List.length_append];omega,fun hen=> ?_,fun hen=> ?_⟩
    ·obtain⟨g1,g2,g3,g4,g5⟩:=h3 hen
     refine⟨g1,g2,g3,g4,?_⟩;rw[List.length_append,List.length_singleton,own_snoc rfl h2,if_neg (fun e2=>hst e2.symm)];exact g5
    ·obtain⟨⟨n,g1,g2,g3⟩,g4⟩:=h4 hen
     exact⟨⟨n,g1,by rw[List.length_append];omega,by rw[own_app (Nat.le_of_lt g2)];exact g3⟩,g4⟩
 ·by_cases e2:j=t
  ·rw[e2,hself]at hj
   obtain⟨s,hs,g1,g2⟩:=h.C t hpc;refine⟨fN ks.length e s,List.mem_map_of_mem hs,(fN_th _ _ _).trans (g1.trans e2.symm),?_⟩;unfold fN;rw[if_pos (isO_iff.2 ⟨g1.trans he.symm,g2⟩)];unfold noteP;rcases hc with⟨c1,c2,c3,c4⟩|⟨c1,c2,c3⟩|⟨c1,c2,c3⟩|⟨c1,c2,c3⟩
   ·rw[if_neg (by omega),if_neg (by omega),if_neg (by omega)]
    exact g2
   ·split
    ·exact g2
    ·rw[if_neg (by omega),if_neg (by omega)]
     exact g2
   ·rw[if_neg (by omega)]
    split
    ·exact g2
    ·rw[if_neg (by omega)]
     exact g2
   ·omega
  ·rw[hoth j e2]at hj
   obtain⟨s,hs,g1,g2⟩:=h.C j hj;refine⟨fN ks.length e s,List.mem_map_of_mem hs,(fN_th _ _ _).trans g1,?_⟩;unfold fN;rw[if_neg (fun h5=>e2 (g1.symm.trans ((isO_iff.1 h5).1.trans he)))];exact g2
theorem Ri.act (t w:Int)(hw:0<(spOf sp t).pc→(spOf sp t).pc<10→w=0):Ri m (ract m sp t w).2 (stepP out ks.length (eOf (ract m sp t w).1)) (ks++ [t]):=by
 have hl:=lastR_in m;unfold ract;by_cases hr:t<0∨(sp.length:Int)≤t
 ·rw[if_pos hr,stepP_id (.inl rfl)]
  exact h.keep (fun hx=>by have:=spOf_range (sp:=sp) (i:=t) (by omega);omega)
 rw[if_neg hr];have ht:0≤t∧t<sp.length:=by omega
 have hp:=h.pcs t;by_cases h0:w=0
 ·rw[if_pos h0]
  by_cases g1:gst (spOf sp t)=1
  ·rw[if_pos g1]
   have hc:=gst_one g1 (by omega);by_cases hn:rnext m (spOf sp t).pc=10
   ·rw[if_pos hn,hn]
    have hlast:(spOf sp t).pc=lastR m:=by
     unfold rnext at hn;split at hn
     ·assumption
     ·omega
    exact h.turn ht {spOf sp t with pc:=10} (eOf (2,t,true,1)) rfl (.inr (.inl ⟨rfl,hlast,rfl⟩))
   ·rw[if_neg hn]
    have hlast:(spOf sp t).pc≠lastR m:=fun e=>hn (by unfold rnext;rw[if_pos e]);have he:rnext m (spOf sp t).pc=(spOf sp t).pc+1:=by unfold rnext;rw[if_neg hlast]
    rw[he];exact h.turn ht {spOf sp t with pc:=(spOf sp t).pc+1} (eOf (0,t,true,0)) rfl (.inl ⟨rfl,by omega,by omega,rfl⟩)
  ·rw[if_neg g1]
   by_cases g3:gst (spOf sp t)=3
   ·rw[if_pos g3]
    have hc:=gst_three g3;exact h.turn ht {spOf sp t with pc:=0} (eOf (4,t,true,0)) rfl (.inr (.inr (.inr ⟨rfl,by omega,rfl⟩)))
   ·rw[if_neg g3,stepP_id (.inl rfl)]
    exact h.keep (fun hx=>g1 (gst_dr hx.1 hx.2))
 rw[if_neg h0];have hx:¬(0<(spOf sp t).pc∧(spOf sp t).pc<10):=fun hx=>h0 (hw hx.1 hx.2);by_cases h3:w=3
 ·rw[if_pos h3]
  by_cases hc:(spOf sp t).pc=0
  ·rw[if_pos hc]
   exact h.asks ht hc
  ·rw[if_neg hc,stepP_id (.inr rfl)]
   exact h.keep hx
 rw[if_neg h3];by_cases h4:w=4
 ·rw[if_pos h4]
  by_cases hc:(spOf sp t).pc=10
  ·rw[if_pos hc]
   exact h.turn ht {spOf sp t with pc:=11} (eOf (3,t,true,0)) rfl (.inr (.inr (.inl ⟨rfl,hc,rfl⟩)))
  ·rw[if_neg hc,stepP_id (.inr rfl)]
   exact h.keep hx
 rw[if_neg h4,stepP_id (.inr rfl)];exact h.keep hx
end
end Go.Proofs.YtfmiioddhpkdkaaGreat.Wr
namespace Go.Proofs.YtfmiioddhpkdkaaGreat.Wn
open Go.RowKit Go.Proofs.YtfmiioddhpkdkaaGreat.Ara Go.Proofs.YtfmiioddhpkdkaaGreat.Lok Go.Proofs.YtfmiioddhpkdkaaGreat.Fl Go.Proofs.YtfmiioddhpkdkaaGreat.Ga Go.Proofs.YtfmiioddhpkdkaaGreat.Sp Go.Proofs.YtfmiioddhpkdkaaGreat.Wf
end Go.Proofs.YtfmiioddhpkdkaaGreat.Wn
namespace Go.Proofs.YtfmiioddhpkdkaaGreat.Wr
open Go.RowKit Go.Proofs.YtfmiioddhpkdkaaGreat.Ara Go.Proofs.YtfmiioddhpkdkaaGreat.Lok Go.Proofs.YtfmiioddhpkdkaaGreat.Fl Go.Proofs.YtfmiioddhpkdkaaGreat.Ga Go.Proofs.YtfmiioddhpkdkaaGreat.Sp Go.Proofs.YtfmiioddhpkdkaaGreat.Wf Go.Proofs.YtfmiioddhpkdkaaGreat.Wn
end Go.Proofs.YtfmiioddhpkdkaaGreat.Wr
namespace Go.Proofs.YtfmiioddhpkdkaaGreat.Wo
open Go.RowKit Go.Proofs.YtfmiioddhpkdkaaGreat.Ara Go.Proofs.YtfmiioddhpkdkaaGreat.Lok Go.Proofs.YtfmiioddhpkdkaaGreat.Ga Go.Proofs.YtfmiioddhpkdkaaGreat.Wf
structure LD (X:Type)where
 N:Nat
 sh:Bool
 st:X→Int→Int
 rd:X→Int→Bool
 ask:X→Int→Bool→Bool×X
 leave:X→Int→Bool×X
 step:X→Int→Bool×X
 cn:X→Int→Int
def wev (e:Ev4):Value:= .agg #[.int .i64 e.1,.int .i64 e.2.1,.bool e.2.2.1,.int .i64 e.2.2.2]
section
variable {X:Type}(D:LD X)
def wstep (x:X)(t:Int):Ev4×X:=
 if D.st x t=1 then(if(D.step x t).1 then(2,t,D.rd x t,D.cn (D.step x t).2 t)else(0,t,D.rd x t,0),(D.step x t).2)
 else if D.st x t=3 then(if(D.step x t).1 then(4,t,D.rd x t,0)else(0,t,D.rd x t,0),(D.step x t).2)
 else((0,t,D.rd x t,0),x)
def wask (x:X)(t:Int)(b:Bool):Ev4×X:=
 if b&& !D.sh then((5,t,D.rd x t,0),x)else(if(D.ask x t b).1 then(1,t,b,0)else(5,t,D.rd x t,0),(D.ask x t b).2)
def wleave (x:X)(t:Int)(b:Bool):Ev4×X:=
 if D.rd x t=b then(if(D.leave x t).1 then(3,t,b,0)else(5,t,D.rd x t,0),(D.leave x t).2)else((5,t,D.rd x t,0),x)
def wact (x:X)(t w:Int):Ev4×X:=
 if t<0∨(D.N:Int)≤t then((0,0,false,0),x)
 else if w=0 then wstep D x t
 else if w=1 then wask D x t false
 else if w=3 then wask D x t true
 else if w=2 then wleave D x t false
 else if w=4 then wleave D x t true
 else((5,t,D.rd x t,0),x)
end
structure LI (gl:Nat){X:Type}(D:LD X)(At:Nat→World→X→Prop)(may:Bool→Prop)(S:List Nat)(L:Nat):Prop where
 lt:∀q∈S,q<L
 up:∀k W x,At k W x→At (k+1) W x
 keep:∀k W W' x,At k W x→Below L W W'→At k W' x
 threads:∀k W x,At k W x→Calls Tryz.prog 45 #[.pointer (some ⟨gl,0,none⟩)] W fun e w'=>e= .returned (.int .i64 (D.N:Int))∧w'=W
 state:∀k W x (t:Int),At k W x→Calls Tryz.prog 43 #[.pointer (some ⟨gl,0,none⟩),.int .i64 t] W fun e w'=>e= .returned (.int .i64 (D.st x t))∧Below W.heap.size W w'
 reads:∀k W x (t:Int),At k W x→Calls Tryz.prog 44 #[.pointer (some ⟨gl,0,none⟩),.int .i64 t] W fun e w'=>e= .returned (.bool (D.rd x t))∧Below W.heap.size W w'
 asks:∀k W x (t:Int) b,k<1000→may b→At k W x→0≤t→t<D.N→Calls Tryz.prog 48 #[.pointer (some ⟨gl,0,none⟩),.int .i64 t,.bool b] W fun e w'=>e= .returned (.bool (D.ask x t b).1)∧At (k+1) w' (D.ask x t b).2∧Mod S W w'
 leaves:∀k W x (t:Int),k<1000→At k W x→0≤t→t<D.N→Calls Tryz.prog 49 #[.pointer (some ⟨gl,0,none⟩),.int .i64 t] W fun e w'=>e= .returned (.bool (D.leave x t).1)∧At (k+1) w' (D.leave x t).2∧Mod S W w'
 steps:∀k W x (t:Int),k<1000→At k W x→0≤t→t<D.N→(D.st x t=1∨D.st x t=3)→Calls Tryz.prog 46 #[.pointer (some ⟨gl,0,none⟩),.int .i64 t] W fun e w'=>e= .returned (.bool (D.step x t).1)∧At (k+1) w' (D.step x t).2∧Mod S W w'
 count:∀k W x (t:Int),At k W x→0≤t→t<D.N→Calls Tryz.prog 47 #[.pointer (some ⟨gl,0,none⟩),.int .i64 t] W fun e w'=>e= .returned (.int .i64 (D.cn x t))∧Below W.heap.size W w'
def WoB (W:World)(gw ga gt gl:Nat)(sh:Bool):Prop:=W.heap[gw]? =some (.cells #[.pointer (some ⟨ga,0,none⟩),.pointer (some ⟨gt,0,none⟩),.pointer (some ⟨gl,0,none⟩),.bool sh] 78 (0,0))
structure WoA (gw ga gt gl:Nat){X:Type}(D:LD X)(At:Nat→World→X→Prop)(S:List Nat)(L:Nat)(k:Nat)(W:World)(x:X):Prop where
 wb:WoB W gw ga gt gl D.sh
 at_:At k W x
 ns:gw∉S
 nl:gw<L
 sz:L≤W.heap.size
section
variable {gw ga gt gl:Nat}{X:Type}{D:LD X}{At:Nat→World→X→Prop}{may:Bool→Prop}{S:List Nat}{L:Nat}{k:Nat}{W W':World}{x:X}
theorem WoA.keep (hG:LI gl D At may S L)(K:WoA gw ga gt gl D At S L k W x)(hb:Below L W W'):WoA gw ga gt gl D At S L k W' x:=
 ⟨(hb.block _ K.nl).trans K.wb,hG.keep _ _ _ _ K.at_ hb,K.ns,K.nl,Nat.le_trans K.sz hb.size⟩
theorem WoA.same (hG:LI gl D At may S L)(K:WoA gw ga gt gl D At S L k W x)(hb:Below W.heap.size W W'):WoA gw ga gt gl D At S L k W' x:=K.keep hG (hb.mono K.sz)
theorem WoA.up (hG:LI gl D At may S L)(K:WoA gw ga gt gl D At S L k W x):WoA gw ga gt gl D At S L (k+1) W x:=⟨K.wb,hG.up _ _ _ K.at_,K.ns,K.nl,K.sz⟩
theorem WoA.act (K:WoA gw ga gt gl D At S L k W x){x':X}{k':Nat}(h:At k' W' x')(hm:Mod S W W'):WoA gw ga gt gl D At S L k' W' x':=⟨hm.blk K.wb K.ns,h,K.ns,K.nl,Nat.le_trans K.sz hm.size⟩
theorem WoA.drewN (hG:LI gl D At may S L)(K:WoA gw ga gt gl D At S L k W x)(n:Nat):WoA gw ga gt gl D At S L k (W.drewN n) x:=K.same hG (below_drewN (Below.refl _ _) n)
theorem WoA.fin (hG:LI gl D At may S L){w:World}(hL:L≤w.heap.size)(K:WoA gw ga gt gl D At S L k W x)(hm:Mod S w W){q:Nat}(hq:w.heap.size≤q)(h:Mod [q] W W'):WoA gw ga gt gl D At S L k W' x∧Mod S w W':=by
 have hb:Below L W W':=h.below K.sz (by simp;omega);exact⟨K.keep hG hb,⟨h.os.trans hm.os,h.tape.trans hm.tape,h.output.trans hm.output,Nat.le_trans hm.size h.size,fun y hy hn=>(h.block y (Nat.lt_of_lt_of_le hy hm.size) (by simp;omega)).trans (hm.block y hy hn)⟩⟩
theorem WoA.cells (K:WoA gw ga gt gl D At S L k W x):W.cell? ⟨gw,2,none⟩=some (.pointer (some ⟨gl,0,none⟩))∧W.cell? ⟨gw,3,none⟩=some (.bool D.sh):=⟨blk_cell K.wb 2 (by simp),blk_cell K.wb 3 (by simp)⟩
end
end Go.Proofs.YtfmiioddhpkdkaaGreat.Wo
