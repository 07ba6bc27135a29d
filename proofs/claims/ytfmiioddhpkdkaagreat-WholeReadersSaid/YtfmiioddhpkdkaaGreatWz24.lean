/- Merged texts: Wf4, Wr1, WnP, Wr2, WoM, Wo1, Wo2. -/
import Derived.Test.YtfmiioddhpkdkaaGreatWz23
import Derived.Deep.Cut
import Derived.Deep.CutBlock
import Derived.Deep.RegionHeld3
import Derived.RegionTactic
import Derived.BigRegion
set_option linter.unusedVariables false
set_option linter.unusedSimpArgs false
set_option maxRecDepth 100000
set_option maxHeartbeats 8000000
namespace Go.Proofs.YtfmiioddhpkdkaaGreat.Wf
open Go.RowKit Ara Lok Fl Ga Go.Proofs.YtfmiioddhpkdkaaGreat.Sp
theorem gst_dr {s:Sp}(h0:0<s.pc)(h1:s.pc<10):gst s=1:=gst_1 ⟨by omega,h1⟩
section
variable {p:PK}{σ:Ar}{sp:List Sp}{q:List Int}{a b:List St}{k:Nat}{W:List Int}(h:Fi p σ sp q a b k W)
include h
end
theorem outP_app (l r:List E):∀k,k≤l.length→outP (l++r) k=outP l k
 |0,_=>rfl
 |k+1,hk=>by
  show stepP (outP (l++r) k) k ((l++r).getD k e0)=stepP (outP l k) k (l.getD k e0);rw[outP_app l r k (by omega)];congr 1;rw[List.getD_eq_getElem?_getD,List.getD_eq_getElem?_getD,List.getElem?_append_left (by omega)]
theorem outP_snoc (l:List E)(e:E):outP (l++ [e]) (l++ [e]).length=stepP (outP l l.length) l.length e:=by
 rw[List.length_append,List.length_singleton];show stepP (outP (l++ [e]) l.length) l.length ((l++ [e]).getD l.length e0)=_;rw[outP_app l [e] _ (Nat.le_refl _)];congr 1;rw[List.getD_eq_getElem?_getD,List.getElem?_append_right (Nat.le_refl _),Nat.sub_self];rfl
end Go.Proofs.YtfmiioddhpkdkaaGreat.Wf
namespace Go.Proofs.YtfmiioddhpkdkaaGreat.Wr
open Go.RowKit Ara Lok Fl Ga Go.Proofs.YtfmiioddhpkdkaaGreat.Sp Wf
def lastR (m:Int):Int:=if m=3 then 3 else 2
def rnext (m pc:Int):Int:=if pc=lastR m then 10 else pc+1
def ract (m:Int)(sp:List Sp)(t w:Int):Ev4×List Sp:=
 if t<0∨(sp.length:Int)≤t then((0,0,false,0),sp)
 else if w=0 then
  if gst (spOf sp t)=1 then(if rnext m (spOf sp t).pc=10 then(2,t,true,1)else(0,t,true,0),sp.set t.toNat {spOf sp t with pc:=rnext m (spOf sp t).pc})
  else if gst (spOf sp t)=3 then((4,t,true,0),sp.set t.toNat {spOf sp t with pc:=0})
  else((0,t,decide (gst (spOf sp t)=2),0),sp)
 else if w=3 then(if(spOf sp t).pc=0 then((1,t,true,0),sp.set t.toNat ⟨1,1,0,0⟩)else((5,t,true,0),sp))
 else if w=4 then(if(spOf sp t).pc=10 then((3,t,true,0),sp.set t.toNat {spOf sp t with pc:=11})else((5,t,decide ((spOf sp t).pc≠0),0),sp))
 else((5,t,decide ((spOf sp t).pc≠0),0),sp)
def own (ks:List Int)(a b:Nat)(t:Int):Nat:=((ks.take b).drop (a+1)).count t
theorem own_snoc {ks:List Int}{a k:Nat}{t x:Int}(hk:k=ks.length)(ha:a<k):own (ks++ [x]) a (k+1) t=own ks a k t+(if x=t then 1 else 0):=by
 subst hk;unfold own;rw[List.take_of_length_le (show(ks++ [x]).length≤ks.length+1 by simp),List.take_of_length_le (Nat.le_refl _),List.drop_append_of_le_length (by omega),List.count_append,List.count_singleton];by_cases e:x=t
 ·rw[e];simp
 ·simp[e]
theorem own_app {ks r:List Int}{a b:Nat}{t:Int}(hb:b≤ks.length):own (ks++r) a b t=own ks a b t:=by
 unfold own;rw[List.take_append_of_le_length hb]
theorem own_self (ks:List Int)(a:Nat)(t:Int):own ks a (a+1) t=0:=by
 unfold own;rw[List.drop_eq_nil_of_le (by rw[List.length_take];omega)];rfl
structure Ri (m:Int)(sp:List Sp)(out:List St)(ks:List Int):Prop where
 pcs:∀t,(spOf sp t).pc=0∨(1≤(spOf sp t).pc∧(spOf sp t).pc≤lastR m)∨(spOf sp t).pc=10∨(spOf sp t).pc=11
 A:∀s∈out,∃a:Nat,s.ask=(a:Int)∧a<ks.length∧
  (s.en<0→s.re<0∧s.ex<0∧0<(spOf sp s.th).pc∧(spOf sp s.th).pc<10∧(own ks a ks.length s.th:Int)=(spOf sp s.th).pc-1)∧
  (0≤s.en→(∃n:Nat,s.en=(n:Int)∧n<ks.length∧own ks a n s.th≤2)∧(s.re<0→((spOf sp s.th).pc=10∧s.ex<0)∨((spOf sp s.th).pc=11∧0≤s.ex)))
 C:∀t,0<(spOf sp t).pc→∃s∈out,s.th=t∧s.re<0
theorem lastR_in (m:Int):2≤lastR m∧lastR m≤3:=by unfold lastR;split<;>omega
section
variable {m:Int}{sp:List Sp}{out:List St}{ks:List Int}(h:Ri m sp out ks)
include h
theorem Ri.opens (t:Int):out.any (isO t)=true↔0<(spOf sp t).pc:=by
 rw[List.any_eq_true];constructor
 ·rintro⟨s,hs,h1⟩
  rw[isO_iff]at h1;obtain⟨a,_,_,h2,h3⟩:=h.A s hs;rw[←h1.1];by_cases h4:s.en<0
  ·exact(h2 h4).2.2.1
  ·have:=(h3 (by omega)).2 h1.2
   omega
 ·intro h1
  obtain⟨s,hs,e,hr⟩:=h.C t h1;exact⟨s,hs,isO_iff.2 ⟨e,hr⟩⟩
theorem Ri.keep {x:Int}(hx:¬(0<(spOf sp x).pc∧(spOf sp x).pc<10)):Ri m sp out (ks++ [x]):=by
 refine⟨h.pcs,fun s hs=> ?_,h.C⟩;obtain⟨a,h1,h2,h3,h4⟩:=h.A s hs;refine⟨a,h1,by rw[List.length_append];omega,fun he=> ?_,fun he=> ?_⟩
 ·obtain⟨g1,g2,g3,g4,g5⟩:=h3 he
  refine⟨g1,g2,g3,g4,?_⟩;rw[List.length_append,List.length_singleton,own_snoc rfl h2,if_neg (fun e=>hx (by rw[e];exact⟨g3,g4⟩))];exact g5
 ·obtain⟨⟨n,g1,g2,g3⟩,g4⟩:=h4 he
  exact⟨⟨n,g1,by rw[List.length_append];omega,by rw[own_app (Nat.le_of_lt g2)];exact g3⟩,g4⟩
omit h in
theorem spOf_at {t:Int}(ht:0≤t∧t<sp.length)(s':Sp)(j:Int):spOf (sp.set t.toNat s') j=if j=t then s' else spOf sp j:=spOf_set ht.1 ht.2 s' j
theorem Ri.asks {t:Int}(ht:0≤t∧t<sp.length)(hc:(spOf sp t).pc=0):Ri m (sp.set t.toNat ⟨1,1,0,0⟩) (stepP out ks.length (eOf (1,t,true,0))) (ks++ [t]):=by
 have hl:=lastR_in m;have hno:¬out.any (isO (eOf (1,t,true,0)).th)=true:=by rw[show(eOf (1,t,true,0)).th=t from rfl,h.opens t,hc];decide
 have hself:spOf (sp.set t.toNat ⟨1,1,0,0⟩) t=⟨1,1,0,0⟩:=by rw[spOf_at ht,if_pos rfl]
 have hoth:∀j,j≠t→spOf (sp.set t.toNat ⟨1,1,0,0⟩) j=spOf sp j:=fun j hj=>by rw[spOf_at ht,if_neg hj]
 have hst:stepP out ks.length (eOf (1,t,true,0))=out++ [⟨t,true,ks.length,-1,-1,-1,0⟩]:=by
  unfold stepP;rw[if_neg hno];rfl
 rw[hst];have hk:=h.keep (x:=t) (by omega);refine⟨fun j=> ?_,fun s hs=> ?_,fun j hj=> ?_⟩
 ·by_cases e:j=t
  ·rw[e,hself];exact .inr (.inl ⟨by decide,by show(1:Int)≤_;omega⟩)
  ·rw[hoth j e];exact h.pcs j
 ·rcases List.mem_append.1 hs with hs|hs
  ·obtain⟨a,h1,h2,h3,h4⟩:=hk.A s hs
   refine⟨a,h1,h2,fun he=> ?_,fun he=> ?_⟩
   ·have g:=h3 he
    rw[hoth s.th (fun e=>by rw[e]at g;omega)];exact g
   ·have g:=h4 he
    refine⟨g.1,fun hr=> ?_⟩;have g2:=g.2 hr;rw[hoth s.th (fun e=>by rw[e]at g2;omega)];exact g2
  ·rw[List.mem_singleton]at hs
   subst hs;refine⟨ks.length,rfl,by simp,fun _=>⟨by show(-1:Int)<0;omega,by show(-1:Int)<0;omega,?_,?_,?_⟩,fun he=> ?_⟩
   ·show 0<(spOf _ t).pc;rw[hself];decide
   ·show(spOf _ t).pc<10;rw[hself];decide
   ·show((own (ks++ [t]) ks.length (ks++ [t]).length t:Nat):Int)=(spOf _ t).pc-1
    rw[hself,List.length_append,List.length_singleton,own_self];rfl
   ·have he:(0:Int)≤-1:=he
    omega
 ·by_cases e:j=t
  ·exact⟨⟨t,true,ks.length,-1,-1,-1,0⟩,by simp,e.symm,by show(-1:Int)<0;omega⟩
  ·rw[hoth j e]at hj
   obtain⟨s,hs,g⟩:=h.C j hj;exact⟨s,List.mem_append_left _ hs,g⟩
theorem Ri.turn {t:Int}(ht:0≤t∧t<sp.length)(s':Sp)(e:E)(he:e.th=t)
 (hc:(e.kind=0∧1≤(spOf sp t).pc∧(spOf sp t).pc<lastR m∧s'.pc=(spOf sp t).pc+1)∨(e.kind=2∧(spOf sp t).pc=lastR m∧s'.pc=10)∨(e.kind=3∧(spOf sp t).pc=10∧s'.pc=11)∨(e.kind=4∧(spOf sp t).pc=11∧s'.pc=0)):
 Ri m (sp.set t.toNat s') (stepP out ks.length e) (ks++ [t]):=by
 have hl:=lastR_in m;have hpc:0<(spOf sp t).pc:=by omega
 have hop:out.any (isO e.th)=true:=by rw[he];exact(h.opens t).2 hpc
 rw[stepP_map hop];have hself:spOf (sp.set t.toNat s') t=s':=by rw[spOf_at ht,if_pos rfl]
 have hoth:∀j,j≠t→spOf (sp.set t.toNat s') j=spOf sp j:=fun j hj=>by rw[spOf_at ht,if_neg hj]
 refine⟨fun j=> ?_,fun x hx=> ?_,fun j hj=> ?_⟩
 ·by_cases e2:j=t
  ·rw[e2,hself];omega
  ·rw[hoth j e2];exact h.pcs j
 ·obtain⟨s,hs,rfl⟩:=List.mem_map.1 hx
  obtain⟨a,h1,h2,h3,h4⟩:=h.A s hs;rw[fN_th];by_cases hO:isO e.th s=true
  ·have hO2:=isO_iff.1 hO
   have hst:s.th=t:=hO2.1.trans he;have hf:fN ks.length e s=noteP ks.length s e:=by unfold fN;rw[if_pos hO]
   rw[hf,hst,hself];rw[hst]at h3 h4;unfold noteP;by_cases hen:s.en<0
   ·obtain⟨g1,g2,g3,g4,g5⟩:=h3 hen
    rcases hc with⟨c1,c2,c3,c4⟩|⟨c1,c2,c3⟩|⟨c1,c2,c3⟩|⟨c1,c2,c3⟩
    ·rw[if_neg (by omega),if_neg (by omega),if_neg (by omega)]
     refine⟨a,h1,by rw[List.length_append];omega,fun _=>⟨g1,g2,by omega,by omega,?_⟩,fun hx=>by omega⟩;rw[List.length_append,List.length_singleton,own_snoc rfl h2,if_pos rfl];omega
    ·rw[if_pos ⟨c1,hen⟩]
     refine⟨a,h1,by rw[List.length_append];omega,fun hx=> ?_,fun _=>⟨⟨ks.length,rfl,by simp,?_⟩,fun _=> .inl ⟨c3,g2⟩⟩⟩
     ·have hx:(ks.length:Int)<0:=hx
      omega
     ·rw[own_app (Nat.le_refl _)]
      omega
    ·omega
    ·omega
   ·obtain⟨⟨n,g1,g2,g3⟩,g4⟩:=h4 (by omega)
    have g5:=g4 hO2.2;have g6:own (ks++ [t]) a n t≤2:=by rw[own_app (Nat.le_of_lt g2)];exact g3
    rcases hc with⟨c1,c2,c3,c4⟩|⟨c1,c2,c3⟩|⟨c1,c2,c3⟩|⟨c1,c2,c3⟩
    ·omega
    ·omega
    ·rw[if_neg (by omega),if_pos (by omega)]
     exact⟨a,h1,by rw[List.length_append];omega,fun hx=>absurd hx hen,fun _=>⟨⟨n,g1,by rw[List.length_append];omega,g6⟩,fun _=> .inr ⟨c3,by show(0:Int)≤(ks.length:Int);omega⟩⟩⟩
    ·rw[if_neg (by omega),if_neg (by omega),if_pos (by omega)]
     refine⟨a,h1,by rw[List.length_append];omega,fun hx=>absurd hx hen,fun _=>⟨⟨n,g1,by rw[List.length_append];omega,g6⟩,fun hr=> ?_⟩⟩;have hr:(ks.length:Int)<0:=hr;omega
  ·have hf:fN ks.length e s=s:=by unfold fN;rw[if_neg hO]
   rw[hf];by_cases hst:s.th=t
   ·have hr:¬s.re<0:=fun hr=>hO (isO_iff.2 ⟨hst.trans he.symm,hr⟩)
    by_cases hen:s.en<0
    ·exact absurd (h3 hen).1 hr
    ·obtain⟨⟨n,g1,g2,g3⟩,_⟩:=h4 (by omega)
     exact⟨a,h1,by rw[List.length_append];omega,fun hx=>absurd hx hen,fun _=>⟨⟨n,g1,by rw[List.length_append];omega,by rw[own_app (Nat.le_of_lt g2)];exact g3⟩,fun hr2=>absurd hr2 hr⟩⟩
   ·rw[hoth s.th hst]
    refine⟨a,h1,by rw[List.length_append];omega,fun hen=> ?_,fun hen=> ?_⟩
    ·obtain⟨g1,g2,g3,g4,g5⟩:=h3 hen
     refine⟨g1,g2,g3,g4,?_⟩;rw[List.length_append,List.length_singleton,own_snoc rfl h2,if_neg (fun e2=>hst e2.symm)];exact g5
    ·obtain⟨⟨n,g1,g2,g3⟩,g4⟩:=h4 hen
     exact⟨⟨n,g1,by rw[List.length_append];omega,by rw[own_app (Nat.le_of_lt g2)];exact g3⟩,g4⟩
 ·by_cases e2:j=t
  ·rw[e2,hself]at hj
   obtain⟨s,hs,g1,g2⟩:=h.C t hpc;refine⟨fN ks.length e s,List.mem_map_of_mem hs,(fN_th _ _ _).trans (g1.trans e2.symm),?_⟩;unfold fN;rw[if_pos (isO_iff.2 ⟨g1.trans he.symm,g2⟩)];unfold noteP;rcases hc with⟨c1,c2,c3,c4⟩|⟨c1,c2,c3⟩|⟨c1,c2,c3⟩|⟨c1,c2,c3⟩
   ·rw[if_neg (by omega),if_neg (by omega),if_neg (by omega)]
    exact g2
   ·split
    ·exact g2
    ·rw[if_neg (by omega),if_neg (by omega)]
     exact g2
   ·rw[if_neg (by omega)]
    split
    ·exact g2
    ·rw[if_neg (by omega)]
     exact g2
   ·omega
  ·rw[hoth j e2]at hj
   obtain⟨s,hs,g1,g2⟩:=h.C j hj;refine⟨fN ks.length e s,List.mem_map_of_mem hs,(fN_th _ _ _).trans g1,?_⟩;unfold fN;rw[if_neg (fun h5=>e2 (g1.symm.trans ((isO_iff.1 h5).1.trans he)))];exact g2
theorem Ri.act (t w:Int)(hw:0<(spOf sp t).pc→(spOf sp t).pc<10→w=0):Ri m (ract m sp t w).2 (stepP out ks.length (eOf (ract m sp t w).1)) (ks++ [t]):=by
 have hl:=lastR_in m;unfold ract;by_cases hr:t<0∨(sp.length:Int)≤t
 ·rw[if_pos hr,stepP_id (.inl rfl)]
  exact h.keep (fun hx=>by have:=spOf_range (sp:=sp) (i:=t) (by omega);omega)
 rw[if_neg hr];have ht:0≤t∧t<sp.length:=by omega
 have hp:=h.pcs t;by_cases h0:w=0
 ·rw[if_pos h0]
  by_cases g1:gst (spOf sp t)=1
  ·rw[if_pos g1]
   have hc:=gst_one g1 (by omega);by_cases hn:rnext m (spOf sp t).pc=10
   ·rw[if_pos hn,hn]
    have hlast:(spOf sp t).pc=lastR m:=by
     unfold rnext at hn;split at hn
     ·assumption
     ·omega
    exact h.turn ht {spOf sp t with pc:=10} (eOf (2,t,true,1)) rfl (.inr (.inl ⟨rfl,hlast,rfl⟩))
   ·rw[if_neg hn]
    have hlast:(spOf sp t).pc≠lastR m:=fun e=>hn (by unfold rnext;rw[if_pos e]);have he:rnext m (spOf sp t).pc=(spOf sp t).pc+1:=by unfold rnext;rw[if_neg hlast]
    rw[he];exact h.turn ht {spOf sp t with pc:=(spOf sp t).pc+1} (eOf (0,t,true,0)) rfl (.inl ⟨rfl,by omega,by omega,rfl⟩)
  ·rw[if_neg g1]
   by_cases g3:gst (spOf sp t)=3
   ·rw[if_pos g3]
    have hc:=gst_three g3;exact h.turn ht {spOf sp t with pc:=0} (eOf (4,t,true,0)) rfl (.inr (.inr (.inr ⟨rfl,by omega,rfl⟩)))
   ·rw[if_neg g3,stepP_id (.inl rfl)]
    exact h.keep (fun hx=>g1 (gst_dr hx.1 hx.2))
 rw[if_neg h0];have hx:¬(0<(spOf sp t).pc∧(spOf sp t).pc<10):=fun hx=>h0 (hw hx.1 hx.2);by_cases h3:w=3
 ·rw[if_pos h3]
  by_cases hc:(spOf sp t).pc=0
  ·rw[if_pos hc]
   exact h.asks ht hc
  ·rw[if_neg hc,stepP_id (.inr rfl)]
   exact h.keep hx
 rw[if_neg h3];by_cases h4:w=4
 ·rw[if_pos h4]
  by_cases hc:(spOf sp t).pc=10
  ·rw[if_pos hc]
   exact h.turn ht {spOf sp t with pc:=11} (eOf (3,t,true,0)) rfl (.inr (.inr (.inl ⟨rfl,hc,rfl⟩)))
  ·rw[if_neg hc,stepP_id (.inr rfl)]
   exact h.keep hx
 rw[if_neg h4,stepP_id (.inr rfl)];exact h.keep hx
end
theorem ri_start (m:Int)(n:Nat):Ri m (List.replicate n sp0) [] []:=by
 have hz:∀t,(spOf (List.replicate n sp0) t).pc=0:=fun t=>by rw[Pt.zero_spot];rfl
 exact⟨fun t=> .inl (hz t),fun s hs=>absurd hs (List.not_mem_nil),fun t ht=>(by rw[hz]at ht;omega)⟩
theorem Ri.owns {m:Int}{sp:List Sp}{out:List St}{ks:List Int}(h:Ri m sp out ks){s:St}(hs:s∈out):∃a:Nat,s.ask=(a:Int)∧a<ks.length∧own ks a (if s.en<0 then ks.length else s.en.toNat) s.th≤2:=by
 have hl:=lastR_in m;obtain⟨a,h1,h2,h3,h4⟩:=h.A s hs;refine⟨a,h1,h2,?_⟩;by_cases he:s.en<0
 ·rw[if_pos he]
  obtain⟨_,_,g3,g4,g5⟩:=h3 he;have:=h.pcs s.th;omega
 ·rw[if_neg he]
  obtain⟨⟨n,g1,g2,g3⟩,_⟩:=h4 (by omega);rw[g1,Int.toNat_natCast];exact g3
end Go.Proofs.YtfmiioddhpkdkaaGreat.Wr
namespace Go.Proofs.YtfmiioddhpkdkaaGreat.Wn
open Go.RowKit Ara Lok Fl Ga Go.Proofs.YtfmiioddhpkdkaaGreat.Sp Wf
structure Pl where
 rest:Int
 stay:Int
 times:Int
 rd:Bool
structure Mi where
 pk:Int
 as_:Int
 ws:Int
def mi0:Mi:=⟨0,0,-1⟩
def pl0:Pl:=⟨0,0,0,false⟩
def planOf (ps:List Pl)(t:Int):Pl:=if 0≤t∧t<(ps.length:Int)then ps.getD t.toNat pl0 else pl0
def lockW (rd:Bool):Int:=if rd then 3 else 1
def unlockW (rd:Bool):Int:=if rd then 4 else 2
def wantT (pl:Pl)(was as_ st:Int):Int×Mi:=
 if st=0∧as_<pl.times∧pl.rest≤was then(lockW pl.rd,⟨was+1,as_+1,st⟩)else if st=2∧pl.stay≤was then(unlockW pl.rd,⟨was+1,as_,st⟩)else(0,⟨was+1,as_,st⟩)
def wantS (pl:Pl)(x:Mi)(st:Int):Int×Mi:=wantT pl (if st=x.ws then x.pk else 0) x.as_ st
theorem want_coming (pl:Pl)(x:Mi):(wantS pl x 1).1=0:=by
 unfold wantS wantT;rw[if_neg (by omega),if_neg (by omega)]
structure Rq (X:Type)where
 x:X
 m:Int→Mi
 out:List E
def rqStep {X:Type}(st:X→Int→Int)(act:X→Int→Int→Ev4×X)(ps:List Pl)(r:Rq X)(t:Int):Rq X:=
 ⟨(act r.x t (wantS (planOf ps t) (r.m t) (st r.x t)).1).2,fun u=>if u=t then(wantS (planOf ps t) (r.m t) (st r.x t)).2 else r.m u,r.out++ [eOf (act r.x t (wantS (planOf ps t) (r.m t) (st r.x t)).1).1]⟩
def rqL {X:Type}(st:X→Int→Int)(act:X→Int→Int→Ev4×X)(ps:List Pl)(x:X)(picks:List Int):Rq X:=picks.foldl (rqStep st act ps) ⟨x,fun _=>mi0,[]⟩
theorem rqL_snoc {X:Type}(st:X→Int→Int)(act:X→Int→Int→Ev4×X)(ps:List Pl)(x:X)(picks:List Int)(t:Int):rqL st act ps x (picks++ [t])=rqStep st act ps (rqL st act ps x picks) t:=by
 unfold rqL;rw[List.foldl_append];rfl
theorem rqL_len {X:Type}(st:X→Int→Int)(act:X→Int→Int→Ev4×X)(ps:List Pl)(x:X)(picks:List Int):(rqL st act ps x picks).out.length=picks.length:=by
 have key:∀(l:List Int) (r:Rq X),(l.foldl (rqStep st act ps) r).out.length=r.out.length+l.length:=by
  intro l
  induction l with
  |nil=>intro r;simp
  |cons t l ih=>
   intro r;rw[List.foldl_cons,ih];show(r.out++ [_]).length+l.length=_;simp only[List.length_append,List.length_cons,List.length_nil];omega
 unfold rqL;rw[key];simp
end Go.Proofs.YtfmiioddhpkdkaaGreat.Wn
namespace Go.Proofs.YtfmiioddhpkdkaaGreat.Wr
open Go.RowKit Ara Lok Fl Ga Go.Proofs.YtfmiioddhpkdkaaGreat.Sp Wf Wn
theorem run_ri (m:Int)(n:Nat)(ps:List Pl)(ks:List Int):
 Ri m (rqL (fun sp t=>gst (spOf sp t)) (ract m) ps (List.replicate n sp0) ks).x (outP (rqL (fun sp t=>gst (spOf sp t)) (ract m) ps (List.replicate n sp0) ks).out (rqL (fun sp t=>gst (spOf sp t)) (ract m) ps (List.replicate n sp0) ks).out.length) ks:=by
 have key:∀(k:Nat) (ks:List Int),ks.length=k→Ri m (rqL (fun sp t=>gst (spOf sp t)) (ract m) ps (List.replicate n sp0) ks).x (outP (rqL (fun sp t=>gst (spOf sp t)) (ract m) ps (List.replicate n sp0) ks).out (rqL (fun sp t=>gst (spOf sp t)) (ract m) ps (List.replicate n sp0) ks).out.length) ks:=by
  intro k
  induction k with
  |zero=>
   intro ks hk;obtain rfl:=List.length_eq_zero_iff.1 hk;exact ri_start m n
  |succ k ih=>
   intro ks hk
   obtain⟨l,t,rfl⟩:∃l t,ks=l++ [t]:=by
    have h0:ks≠ []:=fun e=>by rw[e]at hk;cases hk
    exact⟨ks.dropLast,ks.getLast h0,(List.dropLast_concat_getLast h0).symm⟩
   rw[List.length_append,List.length_singleton]at hk;have h:=ih l (by omega);have hl:=rqL_len (fun sp t=>gst (spOf sp t)) (ract m) ps (List.replicate n sp0) l;rw[rqL_snoc];generalize rqL (fun sp t=>gst (spOf sp t)) (ract m) ps (List.replicate n sp0) l=r at*;obtain⟨sp,mi,out⟩:=r;simp only at h hl;rw[hl]at h;have h2:=h.act t (wantS (planOf ps t) (mi t) (gst (spOf sp t))).1 (fun h0 h1=>by rw[gst_dr h0 h1];exact want_coming _ _);show Ri m (ract m sp t _).2 (outP (out++ [eOf (ract m sp t _).1]) (out++ [eOf (ract m sp t _).1]).length) (l++ [t]);rw[outP_snoc,hl];exact h2
 exact key ks.length ks rfl
end Go.Proofs.YtfmiioddhpkdkaaGreat.Wr
namespace Go.Proofs.YtfmiioddhpkdkaaGreat.Wo
open Go.RowKit Ara Lok Ga Wf
structure LD (X:Type)where
 N:Nat
 sh:Bool
 st:X→Int→Int
 rd:X→Int→Bool
 ask:X→Int→Bool→Bool×X
 leave:X→Int→Bool×X
 step:X→Int→Bool×X
 cn:X→Int→Int
def wev (e:Ev4):Value:= .agg #[.int .i64 e.1,.int .i64 e.2.1,.bool e.2.2.1,.int .i64 e.2.2.2]
section
variable {X:Type}(D:LD X)
def wstep (x:X)(t:Int):Ev4×X:=
 if D.st x t=1 then(if(D.step x t).1 then(2,t,D.rd x t,D.cn (D.step x t).2 t)else(0,t,D.rd x t,0),(D.step x t).2)
 else if D.st x t=3 then(if(D.step x t).1 then(4,t,D.rd x t,0)else(0,t,D.rd x t,0),(D.step x t).2)
 else((0,t,D.rd x t,0),x)
def wask (x:X)(t:Int)(b:Bool):Ev4×X:=
 if b&& !D.sh then((5,t,D.rd x t,0),x)else(if(D.ask x t b).1 then(1,t,b,0)else(5,t,D.rd x t,0),(D.ask x t b).2)
def wleave (x:X)(t:Int)(b:Bool):Ev4×X:=
 if D.rd x t=b then(if(D.leave x t).1 then(3,t,b,0)else(5,t,D.rd x t,0),(D.leave x t).2)else((5,t,D.rd x t,0),x)
def wact (x:X)(t w:Int):Ev4×X:=
 if t<0∨(D.N:Int)≤t then((0,0,false,0),x)
 else if w=0 then wstep D x t
 else if w=1 then wask D x t false
 else if w=3 then wask D x t true
 else if w=2 then wleave D x t false
 else if w=4 then wleave D x t true
 else((5,t,D.rd x t,0),x)
end
structure LI (gl:Nat){X:Type}(D:LD X)(At:Nat→World→X→Prop)(may:Bool→Prop)(S:List Nat)(L:Nat):Prop where
 lt:∀q∈S,q<L
 up:∀k W x,At k W x→At (k+1) W x
 keep:∀k W W' x,At k W x→Below L W W'→At k W' x
 threads:∀k W x,At k W x→Calls Tryz.prog 45 #[.pointer (some ⟨gl,0,none⟩)] W fun e w'=>e= .returned (.int .i64 (D.N:Int))∧w'=W
 state:∀k W x (t:Int),At k W x→Calls Tryz.prog 43 #[.pointer (some ⟨gl,0,none⟩),.int .i64 t] W fun e w'=>e= .returned (.int .i64 (D.st x t))∧Below W.heap.size W w'
 reads:∀k W x (t:Int),At k W x→Calls Tryz.prog 44 #[.pointer (some ⟨gl,0,none⟩),.int .i64 t] W fun e w'=>e= .returned (.bool (D.rd x t))∧Below W.heap.size W w'
 asks:∀k W x (t:Int) b,k<1000→may b→At k W x→0≤t→t<D.N→Calls Tryz.prog 48 #[.pointer (some ⟨gl,0,none⟩),.int .i64 t,.bool b] W fun e w'=>e= .returned (.bool (D.ask x t b).1)∧At (k+1) w' (D.ask x t b).2∧Mod S W w'
 leaves:∀k W x (t:Int),k<1000→At k W x→0≤t→t<D.N→Calls Tryz.prog 49 #[.pointer (some ⟨gl,0,none⟩),.int .i64 t] W fun e w'=>e= .returned (.bool (D.leave x t).1)∧At (k+1) w' (D.leave x t).2∧Mod S W w'
 steps:∀k W x (t:Int),k<1000→At k W x→0≤t→t<D.N→(D.st x t=1∨D.st x t=3)→Calls Tryz.prog 46 #[.pointer (some ⟨gl,0,none⟩),.int .i64 t] W fun e w'=>e= .returned (.bool (D.step x t).1)∧At (k+1) w' (D.step x t).2∧Mod S W w'
 count:∀k W x (t:Int),At k W x→0≤t→t<D.N→Calls Tryz.prog 47 #[.pointer (some ⟨gl,0,none⟩),.int .i64 t] W fun e w'=>e= .returned (.int .i64 (D.cn x t))∧Below W.heap.size W w'
def WoB (W:World)(gw ga gt gl:Nat)(sh:Bool):Prop:=W.heap[gw]? =some (.cells #[.pointer (some ⟨ga,0,none⟩),.pointer (some ⟨gt,0,none⟩),.pointer (some ⟨gl,0,none⟩),.bool sh] 78 (0,0))
structure WoA (gw ga gt gl:Nat){X:Type}(D:LD X)(At:Nat→World→X→Prop)(S:List Nat)(L:Nat)(k:Nat)(W:World)(x:X):Prop where
 wb:WoB W gw ga gt gl D.sh
 at_:At k W x
 ns:gw∉S
 nl:gw<L
 sz:L≤W.heap.size
section
variable {gw ga gt gl:Nat}{X:Type}{D:LD X}{At:Nat→World→X→Prop}{may:Bool→Prop}{S:List Nat}{L:Nat}{k:Nat}{W W':World}{x:X}
theorem WoA.keep (hG:LI gl D At may S L)(K:WoA gw ga gt gl D At S L k W x)(hb:Below L W W'):WoA gw ga gt gl D At S L k W' x:=
 ⟨(hb.block _ K.nl).trans K.wb,hG.keep _ _ _ _ K.at_ hb,K.ns,K.nl,Nat.le_trans K.sz hb.size⟩
theorem WoA.same (hG:LI gl D At may S L)(K:WoA gw ga gt gl D At S L k W x)(hb:Below W.heap.size W W'):WoA gw ga gt gl D At S L k W' x:=K.keep hG (hb.mono K.sz)
theorem WoA.up (hG:LI gl D At may S L)(K:WoA gw ga gt gl D At S L k W x):WoA gw ga gt gl D At S L (k+1) W x:=⟨K.wb,hG.up _ _ _ K.at_,K.ns,K.nl,K.sz⟩
theorem WoA.act (K:WoA gw ga gt gl D At S L k W x){x':X}{k':Nat}(h:At k' W' x')(hm:Mod S W W'):WoA gw ga gt gl D At S L k' W' x':=⟨hm.blk K.wb K.ns,h,K.ns,K.nl,Nat.le_trans K.sz hm.size⟩
theorem WoA.drewN (hG:LI gl D At may S L)(K:WoA gw ga gt gl D At S L k W x)(n:Nat):WoA gw ga gt gl D At S L k (W.drewN n) x:=K.same hG (below_drewN (Below.refl _ _) n)
theorem WoA.fin (hG:LI gl D At may S L){w:World}(hL:L≤w.heap.size)(K:WoA gw ga gt gl D At S L k W x)(hm:Mod S w W){q:Nat}(hq:w.heap.size≤q)(h:Mod [q] W W'):WoA gw ga gt gl D At S L k W' x∧Mod S w W':=by
 have hb:Below L W W':=h.below K.sz (by simp;omega);exact⟨K.keep hG hb,⟨h.os.trans hm.os,h.tape.trans hm.tape,h.output.trans hm.output,Nat.le_trans hm.size h.size,fun y hy hn=>(h.block y (Nat.lt_of_lt_of_le hy hm.size) (by simp;omega)).trans (hm.block y hy hn)⟩⟩
theorem WoA.cells (K:WoA gw ga gt gl D At S L k W x):W.cell? ⟨gw,2,none⟩=some (.pointer (some ⟨gl,0,none⟩))∧W.cell? ⟨gw,3,none⟩=some (.bool D.sh):=⟨blk_cell K.wb 2 (by simp),blk_cell K.wb 3 (by simp)⟩
end
end Go.Proofs.YtfmiioddhpkdkaaGreat.Wo
namespace Go.Proofs.YtfmiioddhpkdkaaGreat.Wo
open Go.RowKit Ara Lok Ga Wf
section
variable {gw ga gt gl:Nat}{X:Type}{D:LD X}{At:Nat→World→X→Prop}{may:Bool→Prop}{S:List Nat}{L:Nat}{k:Nat}{w:World}{x:X}(hG:LI gl D At may S L)(K:WoA gw ga gt gl D At S L k w x)
include hG K
theorem threads_wo:Calls Tryz.prog 24 #[.pointer (some ⟨gw,0,none⟩)] w fun e w'=>e= .returned (.int .i64 (D.N:Int))∧w'=w:=by
 have HS:=Lib.hid (hG.threads _ _ _ K.at_);have c2:=K.cells.1;clear K hG;go_enter Tryz.func24,Tryz.ntmps24;go_wp2_with fail;refine(HS.out).mono ?_;rintro e wx ⟨rfl,hwx⟩;obtain rfl:=hwx.symm;go_wp2_with fail;go_ret;exact⟨rfl,rfl⟩
theorem state_wo (t:Int):Calls Tryz.prog 22 #[.pointer (some ⟨gw,0,none⟩),.int .i64 t] w fun e w'=>e= .returned (.tuple #[.int .i64 (D.st x t),.bool (D.rd x t)])∧Below w.heap.size w w':=by
 have HG:=Lib.hid hG;have HK:=Lib.hid K;clear K hG;go_enter Tryz.func22,Tryz.ntmps22;go_upto_region 3 with fail;have HKd:=Lib.hid (HK.out.same HG.out (show Below w.heap.size w w.drew from Below.drew (Below.refl _ _)));have HBd:=Lib.hid (show Below w.heap.size w w.drew from Below.drew (Below.refl _ _));have c2:w.drew.cell? ⟨gw,2,none⟩=some (.pointer (some ⟨gl,0,none⟩)):=HKd.out.cells.1;have HS:=Lib.hid (HG.out.state _ _ _ t HKd.out.at_);refine wp_region_held_drew (S:=fun V=>V.cell? ⟨gw,2,none⟩=some (.pointer (some ⟨gl,0,none⟩))) (by kernel_rfl) c2 (fun hHeld=> ?_);clear HK;generalize w.drew=W2 at*;refine take_to 0 (some 8) (v:= ?_) rfl rfl (by kernel_rfl) (by kernel_rfl) (by kernel_rfl) (fun _ _ _ h=>h) (Or.inl ⟨by rfl,?_⟩) (by first|trivial|assumption) ?_;rotate_left;focus(intro w hSw;(try dsimp only at hSw);go_simp;(try with_reducible rfl))
 simp only[Act.put,List.setIfInBounds_toArray,List.set_cons_zero,List.set_cons_succ];refine take_to 1 (some 9) (v:= ?_) rfl rfl (by kernel_rfl) (by kernel_rfl) (by kernel_rfl) (fun _ _ _ h=>h) (Or.inl ⟨by rfl,?_⟩) (by first|trivial|assumption) ?_;rotate_left;focus(intro w hSw;(try dsimp only at hSw);go_simp;(try with_reducible rfl))
 simp only[Act.put,List.setIfInBounds_toArray,List.set_cons_zero,List.set_cons_succ];refine take_to 2 (some 10) (v:= ?_) rfl rfl (by kernel_rfl) (by kernel_rfl) (by kernel_rfl) (fun _ _ _ h=>h) (Or.inl ⟨by rfl,?_⟩) (by first|trivial|assumption) ?_;rotate_left;focus(intro w hSw;(try dsimp only at hSw);go_simp;(try with_reducible rfl))
 simp only[Act.put,List.setIfInBounds_toArray,List.set_cons_zero,List.set_cons_succ];refine take_to 3 (some 11) (v:= ?_) rfl rfl (by kernel_rfl) (by kernel_rfl) (by kernel_rfl) (fun _ _ _ h=>h) (Or.inl ⟨by rfl,?_⟩) (by first|trivial|assumption) ?_;rotate_left;focus(intro w hSw;(try dsimp only at hSw);go_simp;(try with_reducible rfl))
 simp only[Act.put,List.setIfInBounds_toArray,List.set_cons_zero,List.set_cons_succ];refine take_to 4 (some 12) (v:= ?_) rfl rfl (by kernel_rfl) (by kernel_rfl) (by kernel_rfl) (fun _ _ _ h=>h) (Or.inl ⟨by rfl,?_⟩) (by first|trivial|assumption) ?_;rotate_left;focus(intro w hSw;(try dsimp only at hSw);go_simp;(try with_reducible rfl))
 simp only[Act.put,List.setIfInBounds_toArray,List.set_cons_zero,List.set_cons_succ];refine take_to 6 (some 14) (v:= ?_) rfl rfl (by kernel_rfl) (by kernel_rfl) (by kernel_rfl) (fun _ _ _ h=>h) (Or.inl ⟨by rfl,?_⟩) (by first|trivial|assumption) ?_;rotate_left;focus(intro w hSw;(try dsimp only at hSw);go_simp;(try with_reducible rfl))
 simp only[Act.put,List.setIfInBounds_toArray,List.set_cons_zero,List.set_cons_succ];refine take_to 7 (some 15) (v:= ?_) rfl rfl (by kernel_rfl) (by kernel_rfl) (by kernel_rfl) (fun _ _ _ h=>h) (Or.inl ⟨by rfl,?_⟩) (by first|trivial|assumption) ?_;rotate_left;focus(intro w hSw;(try dsimp only at hSw);go_simp;(try with_reducible rfl))
 simp only[Act.put,List.setIfInBounds_toArray,List.set_cons_zero,List.set_cons_succ];refine take_to 8 (some 16) (v:= ?_) rfl rfl (by kernel_rfl) (by kernel_rfl) (by kernel_rfl) (fun _ _ _ h=>h) (Or.inl ⟨by rfl,?_⟩) (by first|trivial|assumption) ?_;rotate_left;focus(intro w hSw;(try dsimp only at hSw);go_simp;(try with_reducible rfl))
 simp only[Act.put,List.setIfInBounds_toArray,List.set_cons_zero,List.set_cons_succ];refine take_to 9 (some 17) (v:= ?_) rfl rfl (by kernel_rfl) (by kernel_rfl) (by kernel_rfl) (fun _ _ _ h=>h) (Or.inl ⟨by rfl,?_⟩) (by first|trivial|assumption) ?_;rotate_left;focus(intro w hSw;(try dsimp only at hSw);go_simp;(try with_reducible rfl))
 simp only[Act.put,List.setIfInBounds_toArray,List.set_cons_zero,List.set_cons_succ];refine take_to 10 (some 18) (v:= ?_) rfl rfl (by kernel_rfl) (by kernel_rfl) (by kernel_rfl) (fun _ _ _ h=>h) (Or.inl ⟨by rfl,?_⟩) (by first|trivial|assumption) ?_;rotate_left;focus(intro w hSw;(try dsimp only at hSw);go_simp;(try with_reducible rfl))
 simp only[Act.put,List.setIfInBounds_toArray,List.set_cons_zero,List.set_cons_succ];refine wpAnyH_ready (rs:=[5]) (by kernel_rfl) (by simp) ?_;refine AllReadyH.cons rfl (fun K hK=> ?_) AllReadyH.nil;go_simp;refine HS.out.mono ?_;rintro e w3 ⟨rfl,hb3⟩;have HK3:=Lib.hid (HKd.out.same HG.out hb3);have HB3:=Lib.hid (HBd.out.trans (hb3.mono HBd.out.size));have c3:=HK3.out.cells.1;have HR:=Lib.hid (HG.out.reads _ _ _ t HK3.out.at_);clear hb3 HKd HBd c2 HS;go_simp;refine hK.out _ _ c3 (fun hHeld=> ?_);refine wpAnyH_ready (rs:=[11]) (by kernel_rfl) (by simp) ?_;refine AllReadyH.cons rfl (fun K hK=> ?_) AllReadyH.nil;go_simp;refine HR.out.mono ?_;rintro e w4 ⟨rfl,hb4⟩;have HK4:=Lib.hid (HK3.out.same HG.out hb4);have HB4:=Lib.hid (HB3.out.trans (hb4.mono HB3.out.size));have c4:=HK4.out.cells.1;clear hb4 HK3 HB3 c3 HR;go_simp;refine hK.out _ _ c4 (fun hHeld=> ?_);refine take_to 12 (some 4) (v:= ?_) rfl rfl (by kernel_rfl) (by kernel_rfl) (by kernel_rfl) (fun _ _ _ h=>h) (Or.inl ⟨by rfl,?_⟩) (by first|trivial|assumption) ?_;rotate_left;focus(intro w hSw;(try dsimp only at hSw);go_simp;(try with_reducible rfl))
 simp only[Act.put,List.setIfInBounds_toArray,List.set_cons_zero,List.set_cons_succ];refine take_to 13 (some 5) (v:= ?_) rfl rfl (by kernel_rfl) (by kernel_rfl) (by kernel_rfl) (fun _ _ _ h=>h) (Or.inl ⟨by rfl,?_⟩) (by first|trivial|assumption) ?_;rotate_left;focus(intro w hSw;(try dsimp only at hSw);go_simp;(try with_reducible rfl))
 simp only[Act.put,List.setIfInBounds_toArray,List.set_cons_zero,List.set_cons_succ];refine wpAnyH_done (by kernel_rfl) ?_ _;go_wp2_with fail;go_ret2;exact⟨rfl,HB4.out⟩
end
end Go.Proofs.YtfmiioddhpkdkaaGreat.Wo
namespace Go.Proofs.YtfmiioddhpkdkaaGreat.Wo
open Go.RowKit Ara Lok Ga Wf
def WAft (gw ga gt gl:Nat){X:Type}(D:LD X)(At:Nat→World→X→Prop)(S:List Nat)(L k:Nat)(w:World)(r:Ev4×X)(e:Ending)(w':World):Prop:=
 e= .returned (wev r.1)∧WoA gw ga gt gl D At S L (k+1) w' r.2∧Mod S w w'
section
variable {gw ga gt gl:Nat}{X:Type}{D:LD X}{At:Nat→World→X→Prop}{may:Bool→Prop}{S:List Nat}{L:Nat}{k:Nat}{w:World}{x:X}(hG:LI gl D At may S L)(K:WoA gw ga gt gl D At S L k w x)
include hG K
theorem step_wo (t:Int)(hk:k<1000)(h0:0≤t)(h1:t<D.N):Calls Tryz.prog 25 #[.pointer (some ⟨gw,0,none⟩),.int .i64 t] w (WAft gw ga gt gl D At S L k w (wstep D x t)):=by
 unfold WAft;generalize hw:wstep D x t=r;unfold wstep at hw;replace hw:=Lib.hid hw;have HG:=Lib.hid hG;have HK1:=Lib.hid (K.same hG (below_new w (.cells #[.int .i64 0,.int .i64 0,.bool false,.int .i64 0] 44)));have hL:=K.sz;have HR:=Lib.hid (blk_new w (.cells #[.int .i64 0,.int .i64 0,.bool false,.int .i64 0] 44));have HB:=Lib.hid (below_new w (.cells #[.int .i64 0,.int .i64 0,.bool false,.int .i64 0] 44));clear hG K;go_enter Tryz.func25,Tryz.ntmps25;go_wp2_with fail;refine(state_wo HG.out HK1.out t).mono ?_;rintro e w2 ⟨rfl,hb2⟩;have hz:=HB.out.size;have hz1:w.heap.size+1≤w2.heap.size:=by have:=hb2.size;simp at this;omega
 have HK2:=Lib.hid (HK1.out.same HG.out hb2);have HR2:=Lib.hid ((Mod.of_below (S:=[]) hb2).blk HR.out (by simp));have HB2:=Lib.hid (HB.out.trans (hb2.mono HB.out.size));clear HK1 HR HB hb2 hz;have HSt:=Lib.hid (fun W (K:WoA gw ga gt gl D At S L k W x)=>HG.out.steps k W x t hk K.at_ h0 h1);generalize hrd:D.rd x t=rd at*;generalize hs:D.st x t=st at*;clear hrd;have HK3:=Lib.hid (HK2.out.same HG.out (below_new w2 (.cells #[.int .i64 0,.int .i64 t,.bool rd,.int .i64 0] 44)));have HE3:=Lib.hid (blk_new w2 (.cells #[.int .i64 0,.int .i64 t,.bool rd,.int .i64 0] 44));have HR3:=Lib.hid ((Mod.of_below (S:=[]) (below_new w2 (.cells #[.int .i64 0,.int .i64 t,.bool rd,.int .i64 0] 44))).blk HR2.out (by simp));have HB3:=Lib.hid (HB2.out.trans ((below_new w2 (.cells #[.int .i64 0,.int .i64 t,.bool rd,.int .i64 0] 44)).mono HB2.out.size));have HM3:=Lib.hid (Mod.of_below (S:=S) HB3.out);clear HK2 HR2 HB2 HB3;by_cases hs13:st=1∨st=3
 ·have HSt2:=Lib.hid (HSt.out _ HK3.out hs13)
  have c2:=HK3.out.cells.1;generalize hX:D.step x t=bx at*;clear hX;obtain⟨b,x2⟩:=bx;simp only at HSt2;rcases hs13 with rfl|rfl
  ·have hw2:=hw.out
   rw[if_pos rfl]at hw2;subst hw2;clear hw;go_wp2_with fail;refine HSt2.out.mono ?_;rintro e w4 ⟨rfl,ha4,hm4⟩;have HK4:=Lib.hid (HK3.out.act ha4 hm4);have hlt:∀q∈S,q<L:=HG.out.lt;have HE4:=Lib.hid (hm4.blk HE3.out (fun h=>by have:=hlt _ h;omega));have HR4:=Lib.hid (hm4.blk HR3.out (fun h=>by have:=hlt _ h;omega));have HM4:=Lib.hid (HM3.out.trans hm4);clear ha4 hm4 HK3 HE3 HR3 HM3 HSt HSt2 c2;cases b with
   |false=>
    have e0:=blk_cell HE4.out 0 (by simp);have e1:=blk_cell HE4.out 1 (by simp);have e2:=blk_cell HE4.out 2 (by simp);have e3:=blk_cell HE4.out 3 (by simp);simp only[List.getElem_toArray,List.getElem_cons_zero,List.getElem_cons_succ]at e0 e1 e2 e3;have d0:=blk_cell HR4.out 0 (by simp);have d1:=blk_cell HR4.out 1 (by simp);have d2:=blk_cell HR4.out 2 (by simp);have d3:=blk_cell HR4.out 3 (by simp);simp only[List.getElem_toArray,List.getElem_cons_zero,List.getElem_cons_succ]at d0 d1 d2 d3;have f0:=blk_free HR4.out 0;have f1:=blk_free HR4.out 1;have f2:=blk_free HR4.out 2;have f3:=blk_free HR4.out 3;have k0:=blk_set HR4.out 0 (.int .i64 (0));have k1:=blk_set k0 1 (.int .i64 (t));have k2:=blk_set k1 2 (.bool rd);have k3:=blk_set k2 3 (.int .i64 (0));have g0:=blk_cell k0 0 (by simp);have g1:=blk_cell k1 1 (by simp);have g2:=blk_cell k2 2 (by simp);have g3:=blk_cell k3 3 (by simp);simp at g0 g1 g2 g3;clear k0 k1 k2 k3;go_wp2_with fail;refine bodyPost_ret (v:=wev (0,t,rd,0)) ?_ rfl ⟨rfl,?_⟩
    ·simp[wev,results,Tryz.results25,go_sem,g0,g1,g2,g3]
    ·exact WoA.fin HG.out hL HK4.out HM4.out (Nat.le_refl _) (((((Mod.refl [w.heap.size] _).setCell (by simp) _).setCell (by simp) _).setCell (by simp) _).setCell (by simp) _)
   |true=>
    have c2:=HK4.out.cells.1;have HC:=Lib.hid (HG.out.count _ _ _ t HK4.out.at_ h0 h1);go_wp2_with fail;refine HC.out.mono ?_;rintro e w5 ⟨rfl,hb5⟩;have HK5:=Lib.hid (HK4.out.same HG.out hb5);have HE5:=Lib.hid ((Mod.of_below (S:=[]) hb5).blk HE4.out (by simp));have HR5:=Lib.hid ((Mod.of_below (S:=[]) hb5).blk HR4.out (by simp));have HM5:=Lib.hid (HM4.out.trans (Mod.of_below (S:=S) hb5));clear HK4 HE4 HR4 HM4 hb5 c2 HC;have hmm:Mod [w2.heap.size] w5 ((w5.setCell ⟨w2.heap.size,0,none⟩ (.int .i64 2)).setCell ⟨w2.heap.size,3,none⟩ (.int .i64 (D.cn x2 t))):=((Mod.refl [w2.heap.size] w5).setCell (by simp) _).setCell (by simp) _;have hend:=WoA.fin HG.out hL HK5.out HM5.out (show w.heap.size≤w2.heap.size by omega) hmm;have HR6:=Lib.hid (hmm.blk HR5.out (by simp;omega));have hbl:=blk_set (blk_set HE5.out 0 (.int .i64 2)) 3 (.int .i64 (D.cn x2 t));simp only[Array.set!_eq_setIfInBounds,List.setIfInBounds_toArray,List.set_cons_zero,List.set_cons_succ]at hbl;have HKn:=Lib.hid hend.1;have HMn:=Lib.hid hend.2;have e0:=blk_cell HE5.out 0 (by simp);have e1:=blk_cell HE5.out 1 (by simp);have e2:=blk_cell HE5.out 2 (by simp);have e3:=blk_cell HE5.out 3 (by simp);simp only[List.getElem_toArray,List.getElem_cons_zero,List.getElem_cons_succ]at e0 e1 e2 e3;have y0:=blk_cell hbl 0 (by simp);have y1:=blk_cell hbl 1 (by simp);have y2:=blk_cell hbl 2 (by simp);have y3:=blk_cell hbl 3 (by simp);simp only[List.getElem_toArray,List.getElem_cons_zero,List.getElem_cons_succ]at y0 y1 y2 y3;have fE0:=blk_free HE5.out 0;have fE3:=blk_free HE5.out 3;clear hmm hend hbl HR5 HE5 HK5 HM5;have d0:=blk_cell HR6.out 0 (by simp);have d1:=blk_cell HR6.out 1 (by simp);have d2:=blk_cell HR6.out 2 (by simp);have d3:=blk_cell HR6.out 3 (by simp);simp only[List.getElem_toArray,List.getElem_cons_zero,List.getElem_cons_succ]at d0 d1 d2 d3;have f0:=blk_free HR6.out 0;have f1:=blk_free HR6.out 1;have f2:=blk_free HR6.out 2;have f3:=blk_free HR6.out 3;have k0:=blk_set HR6.out 0 (.int .i64 (2));have k1:=blk_set k0 1 (.int .i64 (t));have k2:=blk_set k1 2 (.bool rd);have k3:=blk_set k2 3 (.int .i64 (D.cn x2 t));have g0:=blk_cell k0 0 (by simp);have g1:=blk_cell k1 1 (by simp);have g2:=blk_cell k2 2 (by simp);have g3:=blk_cell k3 3 (by simp);simp at g0 g1 g2 g3;clear k0 k1 k2 k3;go_wp2_with fail;refine bodyPost_ret (v:=wev (2,t,rd,D.cn x2 t)) ?_ rfl ⟨rfl,?_⟩
    ·simp[wev,results,Tryz.results25,go_sem,g0,g1,g2,g3]
    ·exact WoA.fin HG.out hL HKn.out HMn.out (Nat.le_refl _) (((((Mod.refl [w.heap.size] _).setCell (by simp) _).setCell (by simp) _).setCell (by simp) _).setCell (by simp) _)
  ·have hw2:=hw.out
   rw[if_neg (by decide),if_pos rfl]at hw2;subst hw2;clear hw;go_wp2_with fail;refine HSt2.out.mono ?_;rintro e w4 ⟨rfl,ha4,hm4⟩;have HK4:=Lib.hid (HK3.out.act ha4 hm4);have hlt:∀q∈S,q<L:=HG.out.lt;have HE4:=Lib.hid (hm4.blk HE3.out (fun h=>by have:=hlt _ h;omega));have HR4:=Lib.hid (hm4.blk HR3.out (fun h=>by have:=hlt _ h;omega));have HM4:=Lib.hid (HM3.out.trans hm4);clear ha4 hm4 HK3 HE3 HR3 HM3 HSt HSt2 c2;have e0:=blk_cell HE4.out 0 (by simp);have e1:=blk_cell HE4.out 1 (by simp);have e2:=blk_cell HE4.out 2 (by simp);have e3:=blk_cell HE4.out 3 (by simp);simp only[List.getElem_toArray,List.getElem_cons_zero,List.getElem_cons_succ]at e0 e1 e2 e3;cases b with
   |false=>
    have d0:=blk_cell HR4.out 0 (by simp);have d1:=blk_cell HR4.out 1 (by simp);have d2:=blk_cell HR4.out 2 (by simp);have d3:=blk_cell HR4.out 3 (by simp);simp only[List.getElem_toArray,List.getElem_cons_zero,List.getElem_cons_succ]at d0 d1 d2 d3;have f0:=blk_free HR4.out 0;have f1:=blk_free HR4.out 1;have f2:=blk_free HR4.out 2;have f3:=blk_free HR4.out 3;have k0:=blk_set HR4.out 0 (.int .i64 (0));have k1:=blk_set k0 1 (.int .i64 (t));have k2:=blk_set k1 2 (.bool rd);have k3:=blk_set k2 3 (.int .i64 (0));have g0:=blk_cell k0 0 (by simp);have g1:=blk_cell k1 1 (by simp);have g2:=blk_cell k2 2 (by simp);have g3:=blk_cell k3 3 (by simp);simp at g0 g1 g2 g3;clear k0 k1 k2 k3;go_wp2_with fail;refine bodyPost_ret (v:=wev (0,t,rd,0)) ?_ rfl ⟨rfl,?_⟩
    ·simp[wev,results,Tryz.results25,go_sem,g0,g1,g2,g3]
    ·exact WoA.fin HG.out hL HK4.out HM4.out (Nat.le_refl _) (((((Mod.refl [w.heap.size] _).setCell (by simp) _).setCell (by simp) _).setCell (by simp) _).setCell (by simp) _)
   |true=>
    have hmm:Mod [w2.heap.size] w4 (w4.setCell ⟨w2.heap.size,0,none⟩ (.int .i64 4)):=(Mod.refl [w2.heap.size] w4).setCell (by simp) _;have hend:=WoA.fin HG.out hL HK4.out HM4.out (show w.heap.size≤w2.heap.size by omega) hmm;have HR6:=Lib.hid (hmm.blk HR4.out (by simp;omega));have hbl:=blk_set HE4.out 0 (.int .i64 4);simp only[Array.set!_eq_setIfInBounds,List.setIfInBounds_toArray,List.set_cons_zero,List.set_cons_succ]at hbl;have HKn:=Lib.hid hend.1;have HMn:=Lib.hid hend.2;have y0:=blk_cell hbl 0 (by simp);have y1:=blk_cell hbl 1 (by simp);have y2:=blk_cell hbl 2 (by simp);have y3:=blk_cell hbl 3 (by simp);simp only[List.getElem_toArray,List.getElem_cons_zero,List.getElem_cons_succ]at y0 y1 y2 y3;have fE0:=blk_free HE4.out 0;clear hmm hend hbl HR4 HE4 HK4 HM4;have d0:=blk_cell HR6.out 0 (by simp);have d1:=blk_cell HR6.out 1 (by simp);have d2:=blk_cell HR6.out 2 (by simp);have d3:=blk_cell HR6.out 3 (by simp);simp only[List.getElem_toArray,List.getElem_cons_zero,List.getElem_cons_succ]at d0 d1 d2 d3;have f0:=blk_free HR6.out 0;have f1:=blk_free HR6.out 1;have f2:=blk_free HR6.out 2;have f3:=blk_free HR6.out 3;have k0:=blk_set HR6.out 0 (.int .i64 (4));have k1:=blk_set k0 1 (.int .i64 (t));have k2:=blk_set k1 2 (.bool rd);have k3:=blk_set k2 3 (.int .i64 (0));have g0:=blk_cell k0 0 (by simp);have g1:=blk_cell k1 1 (by simp);have g2:=blk_cell k2 2 (by simp);have g3:=blk_cell k3 3 (by simp);simp at g0 g1 g2 g3;clear k0 k1 k2 k3;go_wp2_with fail;refine bodyPost_ret (v:=wev (4,t,rd,0)) ?_ rfl ⟨rfl,?_⟩
    ·simp[wev,results,Tryz.results25,go_sem,g0,g1,g2,g3]
    ·exact WoA.fin HG.out hL HKn.out HMn.out (Nat.le_refl _) (((((Mod.refl [w.heap.size] _).setCell (by simp) _).setCell (by simp) _).setCell (by simp) _).setCell (by simp) _)
 ·have n1:¬st=1:=fun h=>hs13 (.inl h)
  have n3:¬st=3:=fun h=>hs13 (.inr h);have hw2:=hw.out;rw[if_neg n1,if_neg n3]at hw2;subst hw2;clear hw;have m1:=ibeq_no n1;have m3:=ibeq_no n3;have e0:=blk_cell HE3.out 0 (by simp);have e1:=blk_cell HE3.out 1 (by simp);have e2:=blk_cell HE3.out 2 (by simp);have e3:=blk_cell HE3.out 3 (by simp);simp only[List.getElem_toArray,List.getElem_cons_zero,List.getElem_cons_succ]at e0 e1 e2 e3;clear hs13 n1 n3 HSt;have HK4:=Lib.hid (HK3.out.up HG.out);have d0:=blk_cell HR3.out 0 (by simp);have d1:=blk_cell HR3.out 1 (by simp);have d2:=blk_cell HR3.out 2 (by simp);have d3:=blk_cell HR3.out 3 (by simp);simp only[List.getElem_toArray,List.getElem_cons_zero,List.getElem_cons_succ]at d0 d1 d2 d3;have f0:=blk_free HR3.out 0;have f1:=blk_free HR3.out 1;have f2:=blk_free HR3.out 2;have f3:=blk_free HR3.out 3;have k0:=blk_set HR3.out 0 (.int .i64 (0));have k1:=blk_set k0 1 (.int .i64 (t));have k2:=blk_set k1 2 (.bool rd);have k3:=blk_set k2 3 (.int .i64 (0));have g0:=blk_cell k0 0 (by simp);have g1:=blk_cell k1 1 (by simp);have g2:=blk_cell k2 2 (by simp);have g3:=blk_cell k3 3 (by simp);simp at g0 g1 g2 g3;clear k0 k1 k2 k3;go_wp2_with fail;refine bodyPost_ret (v:=wev (0,t,rd,0)) ?_ rfl ⟨rfl,?_⟩
  ·simp[wev,results,Tryz.results25,go_sem,g0,g1,g2,g3]
  ·exact WoA.fin HG.out hL HK4.out HM3.out (Nat.le_refl _) (((((Mod.refl [w.heap.size] _).setCell (by simp) _).setCell (by simp) _).setCell (by simp) _).setCell (by simp) _)
end
end Go.Proofs.YtfmiioddhpkdkaaGreat.Wo
