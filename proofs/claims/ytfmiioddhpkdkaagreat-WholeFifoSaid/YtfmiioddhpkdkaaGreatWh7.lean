/- Merged texts: McO, McQ. -/
import Derived.Test.YtfmiioddhpkdkaaGreatWh6
set_option linter.unusedVariables false
set_option linter.unusedSimpArgs false
namespace Go.Proofs.YtfmiioddhpkdkaaGreat.Mc
open Go.RowKit Go.Proofs.YtfmiioddhpkdkaaGreat.Ara Go.Proofs.YtfmiioddhpkdkaaGreat.Lok
theorem Chain.waits {P:Par}{σ:Ar}{sp:List Sp}{q:List Int}(h:Chain P σ sp q){i:Int}(hi:i∈q.tail):σ.get (wt P (i+1))=1:=by
 induction q with
 |nil=>simp at hi
 |cons k q ih=>
  cases q with
  |nil=>simp at hi
  |cons j q=>
   simp at hi;rcases hi with rfl|hi
   ·exact h.2.1
   ·exact ih h.2.2 (by simpa using hi)
theorem Chain.pred {P:Par}{σ:Ar}{sp:List Sp}{q:List Int}(h:Chain P σ sp q){i:Int}(hi:i∈q.tail)(h4:(spOf sp i).pc=4):∃p,p∈q∧(spOf sp i).a=p+1∧σ.get (nx P (p+1))=0:=by
 induction q with
 |nil=>simp at hi
 |cons k q ih=>
  cases q with
  |nil=>simp at hi
  |cons j q=>
   obtain⟨c1,_,c3⟩:=h;by_cases e:j=i
   ·subst e
    rcases c1 with⟨_,c,d⟩|⟨c,_⟩
    ·exact⟨k,by simp,c,d⟩
    ·omega
   ·simp at hi
    rcases hi with hi|hi
    ·exact absurd hi.symm e
    ·obtain⟨p,p1,p2,p3⟩:=ih c3 (by simpa using hi)
     exact⟨p,by simp at p1⊢;exact .inr p1,p2,p3⟩
theorem set_same {sp:List Sp}{i:Int}(h0:0≤i)(h1:i<sp.length){s':Sp}(h:s'=spOf sp i):sp.set i.toNat s'=sp:=by
 subst h;obtain⟨k,rfl⟩:=Int.eq_ofNat_of_zero_le h0;have hk:k<sp.length:=by omega
 rw[spOf_in hk,Int.toNat_natCast];exact List.set_getElem_self hk
section
variable {P:Par}{σ:Ar}{sp:List Sp}{q:List Int}(h:Inv P σ sp q){i:Int}
include h
theorem inv_1 (p:(spOf sp i).pc=1):Inv P (σ.op 2 (nx P (i+1)) true 0) (sp.set i.toNat {spOf sp i with pc:=2}) q:=by
 obtain⟨i0,i1⟩:=spOf_range (sp:=sp) (i:=i) (by omega);have hh:=h.hasN (i+1) (by omega) (by omega);have hg:=fun p=>get_op σ h.hl 2 (nx P (i+1)) 0 true p;simp only[hh,true_and]at hg;have hni:¬inq (spOf sp i):=by unfold inq outs;omega
 refine h.turns (by simp) i _ (spOf_set i0 i1 {spOf sp i with pc:=2}) (op_len _ _ _ _ _) (op_t _ _ _ _ _) ?_ (fun j hj j0=> ?_) (fun j hj j0=> ?_) (.inr (.inr (.inl rfl))) (h.ar i) ⟨fun e=>by unfold inq outs at e;simp at e,fun e=>absurd e hni⟩ (fun e=>by unfold inq outs at e;simp at e) (by simp) (fun e=>by simp at e) (fun _=>by rw[hg,if_pos rfl]) (fun e=>by simp at e) (fun e=>by simp at e) (fun e=>by simp at e) (fun e=>by simp at e)
 ·rw[hg,if_neg (by unfold nx;omega)]
 ·have hji:j≠i:=hj.elim (fun e e2=>hni (e2▸e)) id
  rw[hg,if_neg (by unfold nx;omega)]
 ·rw[hg,if_neg (by unfold nx wt;omega)]
theorem inv_2 (p:(spOf sp i).pc=2):Inv P (σ.op 2 (wt P (i+1)) true 1) (sp.set i.toNat {spOf sp i with pc:=3}) q:=by
 obtain⟨i0,i1⟩:=spOf_range (sp:=sp) (i:=i) (by omega);have hh:=h.hasW (i+1) (by omega) (by omega);have hg:=fun p=>get_op σ h.hl 2 (wt P (i+1)) 1 true p;simp only[hh,true_and]at hg;have hni:¬inq (spOf sp i):=by unfold inq outs;omega
 refine h.turns (by simp) i _ (spOf_set i0 i1 {spOf sp i with pc:=3}) (op_len _ _ _ _ _) (op_t _ _ _ _ _) ?_ (fun j hj j0=> ?_) (fun j hj j0=> ?_) (.inr (.inr (.inr (.inl rfl)))) (h.ar i) ⟨fun e=>by unfold inq outs at e;simp at e,fun e=>absurd e hni⟩ (fun e=>by unfold inq outs at e;simp at e) (by simp) (fun e=>by simp at e) (fun _=> ?_) (fun _=>by rw[hg,if_pos rfl]) (fun e=>by simp at e) (fun e=>by simp at e) (fun e=>by simp at e)
 ·rw[hg,if_neg (by unfold wt;omega)]
 ·rw[hg,if_neg (by unfold nx wt;omega)]
 ·have hji:j≠i:=hj.elim (fun e e2=>hni (e2▸e)) id
  rw[hg,if_neg (by unfold wt;omega)]
 ·rw[hg,if_neg (by unfold nx wt;omega)]
  exact h.p2 i (.inl p)
theorem inv_3 (p:(spOf sp i).pc=3):Inv P (σ.op 3 P.tail true (i+1)) (sp.set i.toNat {spOf sp i with pc:=if σ.get P.tail=0 then 10 else 4,a:=σ.get P.tail}) (q++ [i]):=by
 obtain⟨i0,i1⟩:=spOf_range (sp:=sp) (i:=i) (by omega);have hni:i∉q:=fun hi=>by have:=(h.mem i).1 hi;unfold inq outs at this;omega
 have hg:=fun p=>get_op σ h.hl 3 P.tail (i+1) true p;simp only[h.hasT,true_and]at hg;have hs:=spOf_set i0 i1 {spOf sp i with pc:=if σ.get P.tail=0 then 10 else 4,a:=σ.get P.tail};have hlen:(sp.set i.toNat {spOf sp i with pc:=if σ.get P.tail=0 then 10 else 4,a:=σ.get P.tail}).length=sp.length:=by simp
 generalize sp.set i.toNat {spOf sp i with pc:=if σ.get P.tail=0 then 10 else 4,a:=σ.get P.tail}=sp' at*;have hI:spOf sp' i={spOf sp i with pc:=if σ.get P.tail=0 then 10 else 4,a:=σ.get P.tail}:=by rw[hs,if_pos rfl]
 have hO:∀j,j≠i→spOf sp' j=spOf sp j:=fun j e=>by rw[hs,if_neg e]
 have hpi:(spOf sp' i).pc=10∨(spOf sp' i).pc=4:=by rw[hI];simp only;split;exact .inl rfl;exact .inr rfl
 have hv:(q=[]∧σ.get P.tail=0∧(spOf sp' i).pc=10)∨(q≠ []∧σ.get P.tail≠0∧(spOf sp' i).pc=4):=by
  by_cases e:q=[]
  ·have:σ.get P.tail=0:=by rw[h.gT,e];rfl
   exact .inl ⟨e,this,by rw[hI];simp only;rw[if_pos this]⟩
  ·obtain⟨j,j1,j2⟩:=tailOf_mem e
   have:=h.range j j1;have hn:σ.get P.tail≠0:=by rw[h.gT,j2];omega
   exact .inr ⟨e,hn,by rw[hI];simp only;rw[if_neg hn]⟩
 have hN:∀j,0≤j→(σ.op 3 P.tail true (i+1)).get (nx P (j+1))=σ.get (nx P (j+1)):=fun j j0=>by rw[hg,if_neg (by unfold nx;omega)]
 have hW:∀j,0≤j→(σ.op 3 P.tail true (i+1)).get (wt P (j+1))=σ.get (wt P (j+1)):=fun j j0=>by rw[hg,if_neg (by unfold wt;omega)]
 have hr0:∀j,(spOf sp j).pc≠0→0≤j:=fun j hj=>(spOf_range hj).1;have hc':Chain P (σ.op 3 P.tail true (i+1)) sp' q:=h.ch.same (fun j hj=>hO j (fun e=>hni (e▸List.mem_of_mem_tail hj))) (fun j hj=>hN j (h.range j hj).1) (fun j hj=>hW j (h.range j (List.mem_of_mem_tail hj)).1);refine {t1:=h.t1,hl:= ?_,t2:= ?_,pcs:= ?_,ar:= ?_,mem:= ?_,nd:= ?_,first:= ?_,gT:= ?_,ch:= ?_,hd:= ?_,p2:= ?_,p3:= ?_,p13:= ?_,pa:= ?_,p14:= ?_}
 ·rw[op_t,op_len];exact h.hl
 ·rw[hlen,op_t];exact h.t2
 ·intro j
  by_cases e:j=i
  ·subst e
   right;right;right;right;rcases hpi with e|e
   ·exact .inr (.inr (.inl e))
   ·exact .inl e
  ·rw[hO j e];exact h.pcs j
 ·intro j
  rw[hlen];by_cases e:j=i
  ·subst e
   rw[hI];show 0≤σ.get P.tail∧σ.get P.tail≤_;rcases hv with⟨_,e,_⟩|⟨e,_,_⟩
   ·rw[e];omega
   ·obtain⟨k,k1,k2⟩:=tailOf_mem e
    have:=h.range k k1;rw[h.gT,k2];omega
  ·rw[hO j e];exact h.ar j
 ·intro j
  rw[List.mem_append,List.mem_singleton];by_cases e:j=i
  ·subst e
   refine⟨fun _=> ?_,fun _=> .inr rfl⟩;rcases hpi with e|e
   ·exact .inr (.inr (.inl e))
   ·exact .inl e
  ·rw[hO j e]
   exact⟨fun hj=>hj.elim (h.mem j).1 (fun e'=>absurd e' e),fun hj=> .inl ((h.mem j).2 hj)⟩
 ·rw[List.nodup_append]
  refine⟨h.nd,by simp,fun a ha b hb e=> ?_⟩;simp at hb;subst hb;exact hni (e▸ha)
 ·intro j hj
  by_cases e:j=i
  ·subst e
   rcases hv with⟨e,_,_⟩|⟨_,_,e⟩
   ·rw[e];rfl
   ·unfold outs at hj;omega
  ·rw[hO j e]at hj
   have:=h.first j hj;cases q with
   |nil=>simp at this
   |cons k q=>simpa using this
 ·rw[hg,if_pos rfl,tailOf_push]
 ·rcases hv with⟨e,_,_⟩|⟨e,_,e4⟩
  ·subst e
   show _=_;rw[hN i i0];exact h.p2 i (.inr p)
  ·exact hc'.push e e4 (by rw[hI];exact h.gT) (by rw[hN i i0];exact h.p2 i (.inr p)) (by rw[hW i i0];exact h.p3 i p)
 ·intro j hj
  rcases hv with⟨e,_,e10⟩|⟨e,_,_⟩
  ·subst e
   obtain rfl:i=j:=by simpa using hj
   omega
  ·have hj2:q.head? =some j:=by
    cases q with
    |nil=>exact absurd rfl e
    |cons k q=>simpa using hj
   have hjq:j∈q:=List.mem_of_mem_head? hj2;have hji:j≠i:=fun e=>hni (e▸hjq);rw[hO j hji,hW j (h.range j hjq).1];exact h.hd j hj2
 ·intro j hj
  have e:j≠i:=by rintro rfl;omega
  rw[hO j e]at hj;rw[hN j (hr0 j (by omega))];exact h.p2 j hj
 ·intro j hj
  have e:j≠i:=by rintro rfl;omega
  rw[hO j e]at hj;rw[hW j (hr0 j (by omega))];exact h.p3 j hj
 ·intro j hj e2
  have e:j≠i:=by rintro rfl;omega
  rw[hO j e]at hj
  have hq0:q=[]:=by
   cases q with
   |nil=>rfl
   |cons k q=>simp at e2
  have:=h.first j (by unfold outs;omega);rw[hq0]at this;simp at this
 ·intro j hj
  have e:j≠i:=by rintro rfl;omega
  rw[hO j e]at hj⊢;exact h.pa j hj
 ·intro j hj
  have e:j≠i:=by rintro rfl;omega
  rw[hO j e]at hj⊢;rw[hN j (hr0 j (by omega))];exact h.p14 j hj
theorem inv_4 (p:(spOf sp i).pc=4):Inv P (σ.op 2 (nx P (spOf sp i).a) true (i+1)) (sp.set i.toNat {spOf sp i with pc:=5}) q∧σ.has (nx P (spOf sp i).a)=true:=by
 obtain⟨i0,i1⟩:=spOf_range (sp:=sp) (i:=i) (by omega);have hiq:=(h.mem i).2 (.inl p)
 have hit:i∈q.tail:=by
  cases q with
  |nil=>simp at hiq
  |cons k q=>
   rcases List.mem_cons.1 hiq with rfl|hiq
   ·exact absurd p (h.hd i rfl).1
   ·simpa using hiq
 obtain⟨m,m1,m2,m3⟩:=h.ch.pred hit p;have hm:=h.range m m1;have hh:=h.hasN (spOf sp i).a (by omega) (by omega);refine⟨?_,hh⟩;have hg:=fun p=>get_op σ h.hl 2 (nx P (spOf sp i).a) (i+1) true p;simp only[hh,true_and]at hg;have hs:=spOf_set i0 i1 {spOf sp i with pc:=5};have hlen:(sp.set i.toNat {spOf sp i with pc:=5}).length=sp.length:=by simp
 generalize sp.set i.toNat {spOf sp i with pc:=5}=sp' at*;have hI:spOf sp' i={spOf sp i with pc:=5}:=by rw[hs,if_pos rfl]
 have hI5:(spOf sp' i).pc=5:=by rw[hI]
 have hO:∀j,j≠i→spOf sp' j=spOf sp j:=fun j e=>by rw[hs,if_neg e]
 have hN:∀j,(σ.op 2 (nx P (spOf sp i).a) true (i+1)).get (nx P (j+1))=if j+1=(spOf sp i).a then i+1 else σ.get (nx P (j+1)):=by
  intro j;rw[hg];by_cases e:j+1=(spOf sp i).a
  ·rw[if_pos e,if_pos (by rw[e])]
  ·rw[if_neg e,if_neg (by unfold nx;omega)]
 have hW:∀j,(σ.op 2 (nx P (spOf sp i).a) true (i+1)).get (wt P (j+1))=σ.get (wt P (j+1)):=fun j=>by rw[hg,if_neg (by unfold nx wt;omega)]
 refine {t1:=h.t1,hl:= ?_,t2:= ?_,pcs:= ?_,ar:= ?_,mem:= ?_,nd:=h.nd,first:= ?_,gT:= ?_,ch:= ?_,hd:= ?_,p2:= ?_,p3:= ?_,p13:= ?_,pa:= ?_,p14:= ?_}
 ·rw[op_t,op_len];exact h.hl
 ·rw[hlen,op_t];exact h.t2
 ·intro j
  by_cases e:j=i
  ·subst e;exact .inr (.inr (.inr (.inr (.inr (.inl hI5)))))
  ·rw[hO j e];exact h.pcs j
 ·intro j
  rw[hlen];by_cases e:j=i
  ·subst e;rw[hI];exact h.ar j
  ·rw[hO j e];exact h.ar j
 ·intro j
  by_cases e:j=i
  ·subst e;exact⟨fun _=> .inr (.inl hI5),fun _=>hiq⟩
  ·rw[hO j e];exact h.mem j
 ·intro j hj
  have e:j≠i:=by rintro rfl;unfold outs at hj;omega
  rw[hO j e]at hj;exact h.first j hj
 ·rw[hg,if_neg (by unfold nx;omega)];exact h.gT
 ·exact h.ch.link hit h.nd p hI5 hO hN hW
 ·intro j hj
  by_cases e:j=i
  ·subst e;exact absurd p (h.hd j hj).1
  ·rw[hO j e,hW];exact h.hd j hj
 ·intro j hj
  have e:j≠i:=by rintro rfl;omega
  rw[hO j e]at hj;rw[hN,if_neg]
  ·exact h.p2 j hj
  ·intro e2
   have:j=m:=by omega
   subst this;have:=(h.mem j).1 m1;unfold inq outs at this;omega
 ·intro j hj
  have e:j≠i:=by rintro rfl;omega
  rw[hO j e]at hj;rw[hW];exact h.p3 j hj
 ·intro j hj
  have e:j≠i:=by rintro rfl;omega
  rw[hO j e]at hj;exact h.p13 j hj
 ·intro j hj
  have e:j≠i:=by rintro rfl;omega
  rw[hO j e]at hj⊢;exact h.pa j hj
 ·intro j hj
  have e:j≠i:=by rintro rfl;omega
  rw[hO j e]at hj⊢;rw[hN,if_neg]
  ·exact h.p14 j hj
  ·intro e2
   have:j=m:=by omega
   subst this;exact(h.p14 j hj).2 m3
theorem inv_5 (p:(spOf sp i).pc=5)(hz:σ.get (wt P (i+1))=0):Inv P (σ.op 1 (wt P (i+1)) false 0) (sp.set i.toNat {spOf sp i with pc:=10}) q∧q.head? =some i:=by
 obtain⟨i0,i1⟩:=spOf_range (sp:=sp) (i:=i) (by omega);have hiq:=(h.mem i).2 (.inr (.inl p))
 have hf:q.head? =some i:=by
  cases q with
  |nil=>simp at hiq
  |cons k q=>
   rcases List.mem_cons.1 hiq with rfl|hiq
   ·rfl
   ·have:=h.ch.waits (i:=i) (by simpa using hiq)
    omega
 refine⟨(h.turns (by simp) i _ (spOf_set i0 i1 {spOf sp i with pc:=10}) rfl rfl rfl (fun _ _ _=>rfl) (fun _ _ _=>rfl) (.inr (.inr (.inr (.inr (.inr (.inr (.inl rfl))))))) (h.ar i) ⟨fun _=> .inr (.inl p),fun _=> .inr (.inr (.inl rfl))⟩ (fun _=>hf) (by simp) (fun e=>by simp at e) (fun e=>by simp at e) (fun e=>by simp at e) (fun e=>by simp at e) (fun e=>by simp at e) (fun e=>by simp at e)).read _ _,hf⟩
theorem inv_look (p:(spOf sp i).pc=11∨(spOf sp i).pc=13):Inv P (σ.op 1 (nx P (i+1)) false 0) (sp.set i.toNat {spOf sp i with pc:=if σ.get (nx P (i+1))=0 then(if(spOf sp i).pc=11 then 12 else 13)else 14,a:=σ.get (nx P (i+1))}) q:=by
 obtain⟨i0,i1⟩:=spOf_range (sp:=sp) (i:=i) (by omega);have hin:outs (spOf sp i):=by unfold outs;omega
 have hf:=h.first i hin
 have hvr:0≤σ.get (nx P (i+1))∧σ.get (nx P (i+1))≤sp.length:=by
  rcases h.linked i hin with⟨j,t,hq,hj|hj⟩|⟨_,hj⟩
  ·rw[hj.2.2];omega
  ·have:=h.range j (by rw[hq];simp)
   rw[hj.2];omega
  ·rw[hj];omega
 by_cases hz:σ.get (nx P (i+1))=0
 ·rw[if_pos hz]
  by_cases p11:(spOf sp i).pc=11
  ·rw[if_pos p11]
   exact(h.turns (by simp) i _ (spOf_set i0 i1 {spOf sp i with pc:=12,a:=σ.get (nx P (i+1))}) rfl rfl rfl (fun _ _ _=>rfl) (fun _ _ _=>rfl) (.inr (.inr (.inr (.inr (.inr (.inr (.inr (.inr (.inl rfl))))))))) hvr ⟨fun _=> .inr (.inr hin),fun _=> .inr (.inr (.inr (.inr (.inl rfl))))⟩ (fun _=>hf) (by simp) (fun e=>by simp at e) (fun e=>by simp at e) (fun e=>by simp at e) (fun e=>by simp at e) (fun _=>hz) (fun e=>by simp at e)).read _ _
  ·rw[if_neg p11]
   exact(h.turns (by simp) i _ (spOf_set i0 i1 {spOf sp i with pc:=13,a:=σ.get (nx P (i+1))}) rfl rfl rfl (fun _ _ _=>rfl) (fun _ _ _=>rfl) (.inr (.inr (.inr (.inr (.inr (.inr (.inr (.inr (.inr (.inl rfl)))))))))) hvr ⟨fun _=> .inr (.inr hin),fun _=> .inr (.inr (.inr (.inr (.inr (.inl rfl)))))⟩ (fun _=>hf) (by simp) (fun e=>by simp at e) (fun e=>by simp at e) (fun e=>by simp at e) (fun _=>h.p13 i (by omega)) (fun _=>hz) (fun e=>by simp at e)).read _ _
 ·rw[if_neg hz]
  exact(h.turns (by simp) i _ (spOf_set i0 i1 {spOf sp i with pc:=14,a:=σ.get (nx P (i+1))}) rfl rfl rfl (fun _ _ _=>rfl) (fun _ _ _=>rfl) (.inr (.inr (.inr (.inr (.inr (.inr (.inr (.inr (.inr (.inr rfl)))))))))) hvr ⟨fun _=> .inr (.inr hin),fun _=> .inr (.inr (.inr (.inr (.inr (.inr rfl)))))⟩ (fun _=>hf) (by simp) (fun e=>by simp at e) (fun e=>by simp at e) (fun e=>by simp at e) (fun e=>by simp at e) (fun e=>by simp at e) (fun _=>⟨rfl,hz⟩)).read _ _
theorem Inv.casB:(σ.has P.tail&&(σ.get P.tail==i+1))=decide (tailOf q=i+1):=by
 rw[h.hasT,Bool.true_and,h.gT];by_cases e:tailOf q=i+1<;>simp[e]
theorem inv_12 (p:(spOf sp i).pc=12)(hc:tailOf q=i+1):Inv P (σ.op 4 P.tail true 0) (sp.set i.toNat {spOf sp i with pc:=0}) []∧q=[i]:=by
 obtain⟨i0,i1⟩:=spOf_range (sp:=sp) (i:=i) (by omega);have hin:outs (spOf sp i):=by unfold outs;omega
 have hf:=h.first i hin
 have hq:q=[i]:=by
  cases q with
  |nil=>simp at hf
  |cons k q=>
   obtain rfl:k=i:=by simpa using hf
   cases q with
   |nil=>rfl
   |cons j t=>
    obtain⟨m,m1,m2⟩:=tailOf_mem (q:=j::t) (by simp)
    have:m=k:=by
     have:tailOf (k::j::t)=tailOf (j::t):=rfl;omega
    subst this;exact absurd m1 (List.nodup_cons.1 h.nd).1
 refine⟨?_,hq⟩;have hg:=fun p=>get_op σ h.hl 4 P.tail 0 true p;simp only[h.hasT,true_and]at hg;have hs:=spOf_set i0 i1 {spOf sp i with pc:=0};have hlen:(sp.set i.toNat {spOf sp i with pc:=0}).length=sp.length:=by simp
 generalize sp.set i.toNat {spOf sp i with pc:=0}=sp' at*;have hI:spOf sp' i={spOf sp i with pc:=0}:=by rw[hs,if_pos rfl]
 have hI0:(spOf sp' i).pc=0:=by rw[hI]
 have hO:∀j,j≠i→spOf sp' j=spOf sp j:=fun j e=>by rw[hs,if_neg e]
 have hni:∀j,¬inq (spOf sp' j):=by
  intro j hj;by_cases e:j=i
  ·subst e;unfold inq outs at hj;omega
  ·rw[hO j e]at hj
   have:=(h.mem j).2 hj;rw[hq]at this;exact e (by simpa using this)
 have hr0:∀j,(spOf sp j).pc≠0→0≤j:=fun j hj=>(spOf_range hj).1;refine {t1:=h.t1,hl:= ?_,t2:= ?_,pcs:= ?_,ar:= ?_,mem:= ?_,nd:=List.nodup_nil,first:=fun j hj=>absurd (.inr (.inr hj)) (hni j),gT:= ?_,ch:=trivial,hd:= ?_,p2:= ?_,p3:= ?_,p13:=fun j hj=>absurd (by unfold inq outs;omega) (hni j),pa:=fun j hj=>absurd (by unfold inq outs;omega) (hni j),p14:=fun j hj=>absurd (by unfold inq outs;omega) (hni j)}
 ·rw[op_t,op_len];exact h.hl
 ·rw[hlen,op_t];exact h.t2
 ·intro j
  by_cases e:j=i
  ·subst e;exact .inl hI0
  ·rw[hO j e];exact h.pcs j
 ·intro j
  rw[hlen];by_cases e:j=i
  ·subst e;rw[hI];exact h.ar j
  ·rw[hO j e];exact h.ar j
 ·intro j
  exact⟨fun hj=>by simp at hj,fun hj=>absurd hj (hni j)⟩
 ·rw[hg,if_pos rfl];rfl
 ·intro j hj;simp at hj
 ·intro j hj
  have e:j≠i:=by rintro rfl;omega
  rw[hO j e]at hj;have:=hr0 j (by omega);rw[hg,if_neg (by unfold nx;omega)];exact h.p2 j hj
 ·intro j hj
  have e:j≠i:=by rintro rfl;omega
  rw[hO j e]at hj;have:=hr0 j (by omega);rw[hg,if_neg (by unfold wt;omega)];exact h.p3 j hj
theorem inv_12b (p:(spOf sp i).pc=12)(hc:tailOf q≠i+1):Inv P (σ.op 4 P.tail false 0) (sp.set i.toNat {spOf sp i with pc:=13}) q:=by
 obtain⟨i0,i1⟩:=spOf_range (sp:=sp) (i:=i) (by omega);have hin:outs (spOf sp i):=by unfold outs;omega
 have hf:=h.first i hin;refine(h.turns (by simp) i _ (spOf_set i0 i1 {spOf sp i with pc:=13}) rfl rfl rfl (fun _ _ _=>rfl) (fun _ _ _=>rfl) (.inr (.inr (.inr (.inr (.inr (.inr (.inr (.inr (.inr (.inl rfl)))))))))) (h.ar i) ⟨fun _=> .inr (.inr hin),fun _=> .inr (.inr (.inr (.inr (.inr (.inl rfl)))))⟩ (fun _=>hf) (by simp) (fun e=>by simp at e) (fun e=>by simp at e) (fun e=>by simp at e) (fun _ e=>hc (by rw[e];rfl)) (fun _=>h.pa i (.inl p)) (fun e=>by simp at e)).same (op_len _ _ _ _ _) (op_t _ _ _ _ _) (fun q=>get_read σ h.hl 4 _ _ q)
theorem inv_14 (p:(spOf sp i).pc=14):∃j t,q=i::j::t∧(spOf sp j).pc=5∧Inv P (σ.op 2 (wt P (spOf sp i).a) true 0) (sp.set i.toNat {spOf sp i with pc:=0}) (j::t):=by
 obtain⟨i0,i1⟩:=spOf_range (sp:=sp) (i:=i) (by omega);have hin:outs (spOf sp i):=by unfold outs;omega
 obtain⟨ha,hnz⟩:=h.p14 i p;rcases h.linked i hin with⟨j,t,hq,hj|⟨hj5,hj⟩⟩|⟨_,hj⟩
 ·exact absurd hj.2.2 hnz
 ·subst hq
  have haj:(spOf sp i).a=j+1:=by rw[ha,hj]
  have hjr:=h.range j (by simp);have hnd:=h.nd;rw[List.nodup_cons,List.nodup_cons]at hnd;obtain⟨hn1,hn2,hn3⟩:=hnd;have hji:j≠i:=fun e=>hn1 (by simp[e]);rw[haj];refine⟨j,t,rfl,hj5,?_⟩;have hh:=h.hasW (j+1) (by omega) (by omega);have hg:=fun p=>get_op σ h.hl 2 (wt P (j+1)) 0 true p;simp only[hh,true_and]at hg;have hs:=spOf_set i0 i1 {spOf sp i with pc:=0};have hlen:(sp.set i.toNat {spOf sp i with pc:=0}).length=sp.length:=by simp
  generalize sp.set i.toNat {spOf sp i with pc:=0}=sp' at*;have hI:spOf sp' i={spOf sp i with pc:=0}:=by rw[hs,if_pos rfl]
  have hI0:(spOf sp' i).pc=0:=by rw[hI]
  have hO:∀j,j≠i→spOf sp' j=spOf sp j:=fun j e=>by rw[hs,if_neg e]
  have hN:∀m,(σ.op 2 (wt P (j+1)) true 0).get (nx P (m+1))=σ.get (nx P (m+1)):=fun m=>by rw[hg,if_neg (by unfold nx wt;omega)]
  have hW:∀m,m≠j→(σ.op 2 (wt P (j+1)) true 0).get (wt P (m+1))=σ.get (wt P (m+1)):=fun m e=>by rw[hg,if_neg (by unfold wt;omega)]
  have hno:∀m,¬outs (spOf sp' m):=by
   intro m hm;by_cases e:m=i
   ·subst e;unfold outs at hm;omega
   ·rw[hO m e]at hm
    have:=h.first m hm;exact e (by simpa using this.symm)
  have hit:∀m,m∈j::t→m≠i:=fun m hm e=>hn1 (e▸hm);refine {t1:=h.t1,hl:= ?_,t2:= ?_,pcs:= ?_,ar:= ?_,mem:= ?_,nd:=List.nodup_cons.2 ⟨hn2,hn3⟩,first:=fun m hm=>absurd hm (hno m),gT:= ?_,ch:= ?_,hd:= ?_,p2:= ?_,p3:= ?_,p13:=fun m hm=>absurd (by unfold outs;omega) (hno m),pa:=fun m hm=>absurd (by unfold outs;omega) (hno m),p14:=fun m hm=>absurd (by unfold outs;omega) (hno m)}
  ·rw[op_t,op_len];exact h.hl
  ·rw[hlen,op_t];exact h.t2
  ·intro m
   by_cases e:m=i
   ·subst e;exact .inl hI0
   ·rw[hO m e];exact h.pcs m
  ·intro m
   rw[hlen];by_cases e:m=i
   ·subst e;rw[hI];exact h.ar m
   ·rw[hO m e];exact h.ar m
  ·intro m
   by_cases e:m=i
   ·subst e
    refine⟨fun hm=>absurd hm hn1,fun hm=> ?_⟩;unfold inq outs at hm;omega
   ·rw[hO m e,←h.mem m]
    simp[e]
  ·rw[hg,if_neg (by unfold wt;omega),h.gT]
   rfl
  ·refine h.ch.2.2.same (fun m hm=>hO m (hit m (List.mem_of_mem_tail hm))) (fun m _=>hN m) (fun m hm=>hW m (fun e=>hn2 (by subst e;simpa using hm)))
  ·intro m hm
   obtain rfl:j=m:=by simpa using hm
   rw[hO j hji];exact⟨by omega,fun _=>by rw[hg,if_pos rfl]⟩
  ·intro m hm
   have e:m≠i:=by rintro rfl;omega
   rw[hO m e]at hm;rw[hN];exact h.p2 m hm
  ·intro m hm
   have e:m≠i:=by rintro rfl;omega
   rw[hO m e]at hm;rw[hW m (by rintro rfl;omega)];exact h.p3 m hm
 ·exact absurd hj hnz
theorem inv_ask:Inv P σ (turnS sp i 0 1) q:=by
 cases ht:turnB sp i 0
 ·rw[turn_no 1 ht];exact h
 ·have hp:=(turn_true ht).2
  exact h.turns (turnS_len _ _ _ _) i _ (spOf_turn 1 ht) rfl rfl rfl (fun _ _ _=>rfl) (fun _ _ _=>rfl) (.inr (.inl rfl)) (h.ar i) ⟨fun e=>by unfold inq outs at e;simp at e,fun e=>by unfold inq outs at e;omega⟩ (fun e=>by unfold inq outs at e;simp at e) (by simp) (fun e=>by simp at e) (fun e=>by simp at e) (fun e=>by simp at e) (fun e=>by simp at e) (fun e=>by simp at e) (fun e=>by simp at e)
theorem inv_leave:Inv P σ (turnS sp i 10 11) q:=by
 cases ht:turnB sp i 10
 ·rw[turn_no 11 ht];exact h
 ·have hp:=(turn_true ht).2
  exact h.turns (turnS_len _ _ _ _) i _ (spOf_turn 11 ht) rfl rfl rfl (fun _ _ _=>rfl) (fun _ _ _=>rfl) (.inr (.inr (.inr (.inr (.inr (.inr (.inr (.inl rfl)))))))) (h.ar i) ⟨fun _=> .inr (.inr (.inl hp)),fun _=> .inr (.inr (.inr (.inl rfl)))⟩ (fun _=>h.first i (.inl hp)) (by simp) (fun e=>by simp at e) (fun e=>by simp at e) (fun e=>by simp at e) (fun e=>by simp at e) (fun e=>by simp at e) (fun e=>by simp at e)
theorem inv_alone:Inv P (aloneP P σ sp i).2 sp q:=by
 unfold aloneP;split
 ·exact h.read _ _
 ·exact h
end
end Go.Proofs.YtfmiioddhpkdkaaGreat.Mc
namespace Go.Proofs.YtfmiioddhpkdkaaGreat.Mc
open Go.RowKit Go.Proofs.YtfmiioddhpkdkaaGreat.Ara Go.Proofs.YtfmiioddhpkdkaaGreat.Lok
theorem do_0 (P:Par)(σ:Ar)(sp:List Sp)(i:Int):doP P σ sp 0 i=stepP P σ sp i:=rfl
section
variable {P:Par}{σ:Ar}{sp:List Sp}{i:Int}
theorem step_1 (h:(spOf sp i).pc=1):stepP P σ sp i=(false,σ.op 2 (nx P (i+1)) true 0,sp.set i.toNat {spOf sp i with pc:=2}):=by
 unfold stepP;rw[if_pos h]
theorem step_2 (h:(spOf sp i).pc=2):stepP P σ sp i=(false,σ.op 2 (wt P (i+1)) true 1,sp.set i.toNat {spOf sp i with pc:=3}):=by
 unfold stepP;rw[if_neg (by omega),if_pos h]
theorem step_3 (h:(spOf sp i).pc=3):stepP P σ sp i=(σ.get P.tail==0,σ.op 3 P.tail true (i+1),sp.set i.toNat {spOf sp i with pc:=if σ.get P.tail=0 then 10 else 4,a:=σ.get P.tail}):=by
 unfold stepP;rw[if_neg (by omega),if_neg (by omega),if_pos h]
theorem step_4 (h:(spOf sp i).pc=4):stepP P σ sp i=(false,σ.op 2 (nx P (spOf sp i).a) true (i+1),sp.set i.toNat {spOf sp i with pc:=5}):=by
 unfold stepP;rw[if_neg (by omega),if_neg (by omega),if_neg (by omega),if_pos h]
theorem step_5 (h:(spOf sp i).pc=5):stepP P σ sp i=(σ.get (wt P (i+1))==0,σ.op 1 (wt P (i+1)) false 0,sp.set i.toNat {spOf sp i with pc:=if σ.get (wt P (i+1))=0 then 10 else 5}):=by
 unfold stepP;rw[if_neg (by omega),if_neg (by omega),if_neg (by omega),if_neg (by omega),if_pos h]
theorem step_look (h:(spOf sp i).pc=11∨(spOf sp i).pc=13):stepP P σ sp i=(false,σ.op 1 (nx P (i+1)) false 0,sp.set i.toNat {spOf sp i with pc:=if σ.get (nx P (i+1))=0 then(if(spOf sp i).pc=11 then 12 else 13)else 14,a:=σ.get (nx P (i+1))}):=by
 unfold stepP;rw[if_neg (by omega),if_neg (by omega),if_neg (by omega),if_neg (by omega),if_neg (by omega)];rcases h with h|h
 ·rw[if_pos h,if_pos h]
 ·rw[if_neg (by omega),if_neg (by omega),if_pos h,if_neg (show¬(spOf sp i).pc=11 by omega)]
theorem step_12 (h:(spOf sp i).pc=12):stepP P σ sp i=(σ.has P.tail&&(σ.get P.tail==i+1),σ.op 4 P.tail (σ.has P.tail&&(σ.get P.tail==i+1)) 0,sp.set i.toNat {spOf sp i with pc:=if(σ.has P.tail&&(σ.get P.tail==i+1))=true then 0 else 13}):=by
 unfold stepP;rw[if_neg (by omega),if_neg (by omega),if_neg (by omega),if_neg (by omega),if_neg (by omega),if_neg (by omega),if_pos h]
theorem step_14 (h:(spOf sp i).pc=14):stepP P σ sp i=(true,σ.op 2 (wt P (spOf sp i).a) true 0,sp.set i.toNat {spOf sp i with pc:=0}):=by
 unfold stepP;rw[if_neg (by omega),if_neg (by omega),if_neg (by omega),if_neg (by omega),if_neg (by omega),if_neg (by omega),if_neg (by omega),if_neg (by omega),if_pos h]
theorem step_no (h:(spOf sp i).pc=0∨(spOf sp i).pc=10):stepP P σ sp i=(false,σ,sp):=by
 unfold stepP;rw[if_neg (by omega),if_neg (by omega),if_neg (by omega),if_neg (by omega),if_neg (by omega),if_neg (by omega),if_neg (by omega),if_neg (by omega),if_neg (by omega)]
end
theorem step_inv {P:Par}{σ:Ar}{sp:List Sp}{q:List Int}(h:Inv P σ sp q)(i:Int):∃q',Inv P (stepP P σ sp i).2.1 (stepP P σ sp i).2.2 q':=by
 rcases h.pcs i with p|p|p|p|p|p|p|p|p|p|p
 ·rw[step_no (.inl p)];exact⟨_,h⟩
 ·rw[step_1 p];exact⟨_,inv_1 h p⟩
 ·rw[step_2 p];exact⟨_,inv_2 h p⟩
 ·rw[step_3 p];exact⟨_,inv_3 h p⟩
 ·rw[step_4 p];exact⟨_,(inv_4 h p).1⟩
 ·rw[step_5 p]
  by_cases hg:σ.get (wt P (i+1))=0
  ·simp only[if_pos hg];exact⟨_,(inv_5 h p hg).1⟩
  ·obtain⟨i0,i1⟩:=spOf_range (sp:=sp) (i:=i) (by omega)
   simp only[if_neg hg];rw[set_same i0 i1 (by rw[←p])];exact⟨_,h.read _ _⟩
 ·rw[step_no (.inr p)];exact⟨_,h⟩
 ·rw[step_look (.inl p)];exact⟨_,inv_look h (.inl p)⟩
 ·rw[step_12 p,h.casB]
  by_cases hc:tailOf q=i+1
  ·rw[decide_eq_true hc];simp only[if_true];exact⟨_,(inv_12 h p hc).1⟩
  ·rw[decide_eq_false hc];simp only[Bool.false_eq_true,if_false];exact⟨_,inv_12b h p hc⟩
 ·rw[step_look (.inr p)];exact⟨_,inv_look h (.inr p)⟩
 ·rw[step_14 p]
  obtain⟨j,t,_,_,hI⟩:=inv_14 h p;exact⟨_,hI⟩
theorem do_inv {P:Par}{σ:Ar}{sp:List Sp}{q:List Int}(h:Inv P σ sp q)(kd i:Int):∃q',Inv P (doP P σ sp kd i).2.1 (doP P σ sp kd i).2.2 q':=by
 unfold doP;split
 ·exact step_inv h i
 split
 ·exact⟨_,inv_ask h⟩
 split
 ·exact⟨_,inv_leave h⟩
 split
 ·exact⟨_,inv_alone h⟩
 ·exact⟨_,h⟩
theorem do_len (P:Par)(σ:Ar)(sp:List Sp)(kd i:Int):(doP P σ sp kd i).2.2.length=sp.length:=by
 unfold doP;split
 ·unfold stepP
  repeat(split;simp)
  rfl
 split
 ·exact turnS_len _ _ _ _
 split
 ·exact turnS_len _ _ _ _
 split<;>rfl
theorem do_ops (P:Par)(σ:Ar)(sp:List Sp)(kd i:Int):(doP P σ sp kd i).2.1.ops≤σ.ops+1∧σ.ops≤(doP P σ sp kd i).2.1.ops:=by
 have h:∀(kd p v:Int) (wr:Bool),(σ.op kd p wr v).ops≤σ.ops+1∧σ.ops≤(σ.op kd p wr v).ops:=by
  intro kd p v wr;rw[op_ops];split<;>omega
 unfold doP;split
 ·unfold stepP
  repeat(split;exact h _ _ _ _)
  exact⟨Nat.le_succ _,Nat.le_refl _⟩
 split
 ·exact⟨Nat.le_succ _,Nat.le_refl _⟩
 split
 ·exact⟨Nat.le_succ _,Nat.le_refl _⟩
 split
 ·unfold aloneP
  split
  ·exact h _ _ _ _
  ·exact⟨Nat.le_succ _,Nat.le_refl _⟩
 ·exact⟨Nat.le_succ _,Nat.le_refl _⟩
structure St where
 σ:Ar
 sp:List Sp
 doors:List Int
 held:List Int
def ordS (P:Par)(x:St)(c:Ac):St:=
 {σ:=(doP P x.σ x.sp c.kind c.i).2.1,sp:=(doP P x.σ x.sp c.kind c.i).2.2,
  doors:=if c.kind=0∧0<(spOf x.sp c.i).pc∧(spOf x.sp c.i).pc<10∧x.σ.ops<(doP P x.σ x.sp c.kind c.i).2.1.ops∧(doP P x.σ x.sp c.kind c.i).2.1.kind=3 then x.doors++ [c.i]else x.doors,
  held:=if(spOf x.sp c.i).pc<10∧(spOf (doP P x.σ x.sp c.kind c.i).2.2 c.i).pc=10 then x.held++ [c.i]else x.held}
structure OrdI (P:Par)(x:St)(q s:List Int):Prop where
 inv:Inv P x.σ x.sp q
 dl:x.doors=s++q
 hh:(∃i,outs (spOf x.sp i)∧x.held=s++ [i])∨((∀i,¬outs (spOf x.sp i))∧x.held=s)
def OrdP (P:Par)(x:St):Prop:=∃q s,OrdI P x q s
theorem OrdI.keep {P:Par}{x:St}{q s:List Int}(h:OrdI P x q s){σ':Ar}{sp':List Sp}(hi:Inv P σ' sp' q)(hn:∀i,outs (spOf sp' i)↔outs (spOf x.sp i)):OrdP P {σ:=σ',sp:=sp',doors:=x.doors,held:=x.held}:=by
 refine⟨q,s,hi,h.dl,?_⟩;rcases h.hh with⟨i,h1,e⟩|⟨h1,e⟩
 ·exact .inl ⟨i,(hn i).2 h1,e⟩
 ·exact .inr ⟨fun i h2=>h1 i ((hn i).1 h2),e⟩
theorem ord_plain {P:Par}{x:St}{c:Ac}(hd:¬(c.kind=0∧0<(spOf x.sp c.i).pc∧(spOf x.sp c.i).pc<10∧x.σ.ops<(doP P x.σ x.sp c.kind c.i).2.1.ops∧(doP P x.σ x.sp c.kind c.i).2.1.kind=3))(hh:¬((spOf x.sp c.i).pc<10∧(spOf (doP P x.σ x.sp c.kind c.i).2.2 c.i).pc=10)):
 ordS P x c={σ:=(doP P x.σ x.sp c.kind c.i).2.1,sp:=(doP P x.σ x.sp c.kind c.i).2.2,doors:=x.doors,held:=x.held}:=by
 unfold ordS;rw[if_neg hd,if_neg hh]
theorem OrdI.quiet {P:Par}{x:St}{q s:List Int}(h:OrdI P x q s){i:Int}{b:Bool}{σ':Ar}{s':Sp}(i0:0≤i)(i1:i<x.sp.length)(e:stepP P x.σ x.sp i=(b,σ',x.sp.set i.toNat s'))(hd:(spOf x.sp i).pc<10→σ'.kind≠3)(h10:(spOf x.sp i).pc<10→s'.pc≠10)
 (hI:Inv P σ' (x.sp.set i.toNat s') q) (ho:outs s'↔outs (spOf x.sp i)):OrdP P (ordS P x ⟨0,i⟩):=by
 have hs:=spOf_set i0 i1 s';rw[ord_plain (c:=⟨0,i⟩) (fun hh=>by simp only[do_0,e]at hh;exact hd hh.2.2.1 hh.2.2.2.2) (fun hh=>by simp only[do_0,e]at hh;rw[hs,if_pos rfl]at hh;exact h10 hh.1 hh.2)];simp only[do_0,e];refine h.keep hI (fun j=> ?_);rw[hs];by_cases ej:j=i
 ·rw[if_pos ej,ej];exact ho
 ·rw[if_neg ej]
def core (x:St):List Sp×(List Int×Nat):=(x.sp,(x.σ.ws,x.σ.t))
theorem zero_get (n t:Nat)(q:Int):(⟨zerosW n,t,0,0,0,false⟩:Ar).get q=0:=by
 unfold Ar.get;split
 ·show(List.replicate n (0:Int)).getD _ 0=0
  rw[List.getD_eq_getElem?_getD,List.getElem?_replicate];split<;>rfl
 ·rfl
theorem zero_spot (n:Nat)(i:Int):spOf (List.replicate n sp0) i=sp0:=by
 unfold spOf;split
 ·rw[List.getD_eq_getElem?_getD,List.getElem?_replicate]
  split<;>rfl
 ·rfl
theorem inv_start (n:Nat)(h1:n≤32):Inv ⟨1⟩ (⟨zerosW 100,1+2*n,0,0,0,false⟩:Ar) (List.replicate n sp0) []:=by
 have hp:∀i,(spOf (List.replicate n sp0) i).pc=0:=fun i=>by rw[zero_spot];rfl
 have hq:∀i,¬inq (spOf (List.replicate n sp0) i):=by
  intro i h;have:=hp i;unfold inq outs at h;omega
 refine {hl:= ?_,t1:=by decide,t2:= ?_,pcs:=fun i=> .inl (hp i),ar:=fun i=> ?_,mem:=fun i=>⟨fun h=>by simp at h,fun h=>absurd h (hq i)⟩,nd:=List.nodup_nil,first:=fun i h=>absurd (.inr (.inr h)) (hq i),gT:=zero_get _ _ _,ch:=trivial,hd:=fun i h=>by simp at h,p2:=fun i h=>by have:=hp i;omega,p3:=fun i h=>by have:=hp i;omega,p13:=fun i h=>by have:=hp i;omega,pa:=fun i h=>by have:=hp i;omega,p14:=fun i h=>by have:=hp i;omega}
 ·show 1+2*n≤(zerosW 100).length
  have:(zerosW 100).length=100:=List.length_replicate;omega
 ·rw[List.length_replicate];show(1:Int)+2*n≤((1+2*n:Nat):Int);omega
 ·rw[zero_spot];exact⟨Int.le_refl _,by show(0:Int)≤_;omega⟩
end Go.Proofs.YtfmiioddhpkdkaaGreat.Mc
