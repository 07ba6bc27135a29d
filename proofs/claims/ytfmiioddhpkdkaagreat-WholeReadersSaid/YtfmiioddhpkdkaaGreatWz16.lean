/- Merged texts: FlO1, Qu, Qu2, Fr1, Fr2, Gst, GaP. -/
import Derived.Test.YtfmiioddhpkdkaaGreatWz15
set_option linter.unusedVariables false
set_option linter.unusedSimpArgs false
set_option maxRecDepth 100000
set_option maxHeartbeats 8000000
namespace Go.Proofs.YtfmiioddhpkdkaaGreat.Fl
open Go.RowKit Ara Lok
end Go.Proofs.YtfmiioddhpkdkaaGreat.Fl
namespace Go.Proofs.YtfmiioddhpkdkaaGreat.Fl
open Go.RowKit Ara Lok
theorem list_ext_get {α:Type}{l:List α}{a:α}(h:a∈l):∃k,∃hk:k<l.length,l[k]=a:=by
 obtain⟨k,hk,e⟩:=List.mem_iff_getElem.1 h;exact⟨k,hk,e⟩
theorem head_zero {α:Type}{l:List α}(h:0<l.length):l.head? =some l[0]:=by
 cases l with
 |nil=>simp at h
 |cons a l=>rfl
theorem spOf_turnS {sp:List Sp}{i fr tO:Int}(j:Int):spOf (turnS sp i fr tO) j=if turnB sp i fr=true∧j=i then {spOf sp i with pc:=tO}else spOf sp j:=by
 cases ht:turnB sp i fr with
 |false=>rw[turn_no tO ht,if_neg (by simp)]
 |true=>
  rw[spOf_turn tO ht j];by_cases e:j=i
  ·rw[if_pos e,if_pos ⟨rfl,e⟩]
  ·rw[if_neg e,if_neg (fun h=>e h.2)]
def Tkq (P:Tk.Par)(σ:Ar)(sp:List Sp)(q:List Int):Prop:=∃S T:Nat,Tk.Inv P σ sp S T∧q.length+S=T∧∀k (h:k<q.length),Tk.inq (spOf sp q[k])∧(spOf sp q[k]).a=(S:Int)+k
section
variable {P:Tk.Par}{σ:Ar}{sp:List Sp}{q:List Int}(h:Tkq P σ sp q)
include h
theorem Tkq.mem (i:Int):i∈q↔Tk.inq (spOf sp i):=by
 obtain⟨S,T,hi,hl,hk⟩:=h;constructor
 ·intro hm
  obtain⟨k,k1,rfl⟩:=list_ext_get hm;exact(hk k k1).1
 ·intro hq
  have ht:=hi.tick i hq;have h1:((spOf sp i).a-S).toNat<q.length:=by omega
  have h2:=hk _ h1;have e:q[((spOf sp i).a-S).toNat]=i:=hi.inj _ _ h2.1 hq (by rw[h2.2];omega);rw[←e];exact List.getElem_mem h1
theorem Tkq.head {i:Int}(hp:(spOf sp i).pc=10∨(spOf sp i).pc=11):q.head? =some i:=by
 have hm:=(h.mem i).2 (.inr hp);obtain⟨S,T,hi,hl,hk⟩:=h;obtain⟨k,k1,e⟩:=list_ext_get hm;have a1:=(hk k k1).2;rw[e,hi.hold i hp]at a1;obtain rfl:k=0:=by omega
 rw[head_zero k1,e]
theorem Tkq.first {i:Int}(hq:Tk.inq (spOf sp i))(hs:σ.get (Tk.place P (spOf sp i).a)=(spOf sp i).a):q.head? =some i:=by
 have hm:=(h.mem i).2 hq;obtain⟨S,T,hi,hl,hk⟩:=h;have ha:=hi.served i hq hs;obtain⟨k,k1,e⟩:=list_ext_get hm;have a1:=(hk k k1).2;rw[e,ha]at a1;obtain rfl:k=0:=by omega
 rw[head_zero k1,e]
end
def Ptq (P:Pt.Par)(σ:Ar)(sp:List Sp)(q:List Int):Prop:=∃S T:Nat,Pt.Inv P σ sp S T∧q.length+S=T∧∀k (h:k<q.length),Pt.inq (spOf sp q[k])∧(spOf sp q[k]).a=(S:Int)+k
section
variable {P:Pt.Par}{σ:Ar}{sp:List Sp}{q:List Int}(h:Ptq P σ sp q)
include h
theorem Ptq.mem (i:Int):i∈q↔Pt.inq (spOf sp i):=by
 obtain⟨S,T,hi,hl,hk⟩:=h;constructor
 ·intro hm
  obtain⟨k,k1,rfl⟩:=list_ext_get hm;exact(hk k k1).1
 ·intro hq
  have ht:=hi.tick i hq;have h1:((spOf sp i).a-S).toNat<q.length:=by omega
  have h2:=hk _ h1;have e:q[((spOf sp i).a-S).toNat]=i:=hi.inj _ _ h2.1 hq (by rw[h2.2];omega);rw[←e];exact List.getElem_mem h1
theorem Ptq.head {i:Int}(hp:(spOf sp i).pc=10∨(spOf sp i).pc=11):q.head? =some i:=by
 have hm:=(h.mem i).2 (.inr hp);obtain⟨S,T,hi,hl,hk⟩:=h;obtain⟨k,k1,e⟩:=list_ext_get hm;have a1:=(hk k k1).2;rw[e,hi.hold i hp]at a1;obtain rfl:k=0:=by omega
 rw[head_zero k1,e]
theorem Ptq.first {i:Int}(hq:Pt.inq (spOf sp i))(hs:σ.get (Pt.place P (spOf sp i).a)=(spOf sp i).a+1):q.head? =some i:=by
 have hm:=(h.mem i).2 hq;obtain⟨S,T,hi,hl,hk⟩:=h;have ha:=hi.served i hq hs;obtain⟨k,k1,e⟩:=list_ext_get hm;have a1:=(hk k k1).2;rw[e,ha]at a1;obtain rfl:k=0:=by omega
 rw[head_zero k1,e]
end
end Go.Proofs.YtfmiioddhpkdkaaGreat.Fl
namespace Go.Proofs.YtfmiioddhpkdkaaGreat.Fl
open Go.RowKit Ara Lok
def dr:PK→Int
 |.tas _=>0
 |.tic _=>1
 |.par _=>1
 |.mcs _=>3
 |.clh _=>2
def QuK:PK→Ar→List Sp→List Int→Prop
 |.tas _,_,_,_=>False
 |.tic P,σ,sp,q=>Tkq P σ sp q
 |.par P,σ,sp,q=>Ptq P σ sp q
 |.mcs P,σ,sp,q=>Mc.Inv P σ sp q
 |.clh P,σ,sp,q=>∃z,Cl.Inv P σ sp z q
theorem Tkq.pcs {P:Tk.Par}{σ:Ar}{sp:List Sp}{q:List Int}(h:Tkq P σ sp q)(i:Int):(spOf sp i).pc=0∨(spOf sp i).pc=1∨(spOf sp i).pc=2∨(spOf sp i).pc=10∨(spOf sp i).pc=11:=by
 obtain⟨S,T,hi,_⟩:=h;have:=hi.pcs i;unfold Tk.inq at this;omega
theorem Ptq.pcs {P:Pt.Par}{σ:Ar}{sp:List Sp}{q:List Int}(h:Ptq P σ sp q)(i:Int):(spOf sp i).pc=0∨(spOf sp i).pc=1∨(spOf sp i).pc=2∨(spOf sp i).pc=10∨(spOf sp i).pc=11:=by
 obtain⟨S,T,hi,_⟩:=h;have:=hi.pcs i;unfold Pt.inq at this;omega
theorem clpcs {P:Cl.Par}{σ:Ar}{sp:List Sp}{z:Int}{q:List Int}(h:Cl.Inv P σ sp z q)(i:Int):(spOf sp i).pc=0∨(spOf sp i).pc=1∨(spOf sp i).pc=2∨(spOf sp i).pc=3∨(spOf sp i).pc=10∨(spOf sp i).pc=11:=by
 have:=h.pcs i;unfold Cl.inq Cl.inn at this;omega
theorem mcpcs {P:Mc.Par}{σ:Ar}{sp:List Sp}{q:List Int}(h:Mc.Inv P σ sp q)(i:Int):(spOf sp i).pc=0∨(spOf sp i).pc=1∨(spOf sp i).pc=2∨(spOf sp i).pc=3∨(spOf sp i).pc=4∨(spOf sp i).pc=5∨(spOf sp i).pc=10∨(spOf sp i).pc=11∨(spOf sp i).pc=12∨(spOf sp i).pc=13∨(spOf sp i).pc=14:=by
 have:=h.pcs i;unfold Mc.inq Mc.outs at this;omega
section
variable {p:PK}{σ:Ar}{sp:List Sp}{q:List Int}(h:QuK p σ sp q)
include h
theorem QuK.head {i:Int}(hp:10≤(spOf sp i).pc):q.head? =some i:=by
 cases p with
 |tas P=>exact absurd h id
 |tic P=>have h:Tkq P σ sp q:=h;exact h.head (by have:=h.pcs i;omega)
 |par P=>have h:Ptq P σ sp q:=h;exact h.head (by have:=h.pcs i;omega)
 |mcs P=>have h:Mc.Inv P σ sp q:=h;exact h.first i (by have:=mcpcs h i;unfold Mc.outs;omega)
 |clh P=>obtain⟨z,h⟩:=h;exact h.first i (by have:=clpcs h i;unfold Cl.inn;omega)
end
end Go.Proofs.YtfmiioddhpkdkaaGreat.Fl
namespace Go.Proofs.YtfmiioddhpkdkaaGreat.Fl
open Go.RowKit Ara Lok
def inR (p:PK)(N:Nat)(q:Int):Prop:=
 match p with
 |.tas P=>q=P.word
 |.tic P=>P.next≤q∧q≤P.next+1
 |.par P=>P.next≤q∧q≤P.next+P.parts
 |.mcs P=>P.tail≤q∧q≤P.tail+2*N
 |.clh P=>P.tail≤q∧q≤P.tail+N+1
structure Al (p:PK)(N:Nat)(σ σ':Ar):Prop where
 get:∀q,inR p N q→σ'.get q=σ.get q
 t:σ.t≤σ'.t
 l:σ'.t≤σ'.ws.length
theorem Al.has {p:PK}{N:Nat}{σ σ':Ar}(h:Al p N σ σ'){q:Int}(hq:σ.has q=true):σ'.has q=true:=by
 have:=h.t;unfold Ar.has at hq⊢;simp only[Bool.and_eq_true,decide_eq_true_eq]at hq⊢;omega
theorem Al.refl {p:PK}{N:Nat}{σ:Ar}(h:σ.t≤σ.ws.length):Al p N σ σ:=⟨fun _ _=>rfl,Nat.le_refl _,h⟩
theorem al_ta {P:Ta.Par}{σ σ':Ar}{sp:List Sp}{N:Nat}(h:Ta.Inv P σ sp)(a:Al (.tas P) N σ σ'):Ta.Inv P σ' sp:=
 {h with hl:=a.l,hw:=a.has h.hw,hold:=fun i hi=>(a.get _ rfl).trans (h.hold i hi),free:=fun hf=>(a.get _ rfl).trans (h.free hf)}
theorem al_tk {P:Tk.Par}{σ σ':Ar}{sp:List Sp}{S T N:Nat}(h:Tk.Inv P σ sp S T)(a:Al (.tic P) N σ σ'):Tk.Inv P σ' sp S T:=by
 have ht:=a.t;have h1:P.parts=1:=rfl
 have hpl:∀t,σ'.get (Tk.place P t)=σ.get (Tk.place P t):=fun t=>a.get _ (by
  obtain⟨x,x0,x1,e⟩:=Tk.place_in h.p1 t;show P.next≤Tk.place P t∧Tk.place P t≤P.next+1;rw[e];omega)
 exact {h with hl:=a.l,n2:=by have:=h.n2;omega,gT:=(a.get P.next ⟨Int.le_refl _,by omega⟩).trans h.gT,srv:=(hpl _).trans h.srv,low:=fun x x0 x1=>(a.get (P.next+1+x) ⟨by omega,by omega⟩)▸h.low x x0 x1}
theorem al_pt {P:Pt.Par}{σ σ':Ar}{sp:List Sp}{S T N:Nat}(h:Pt.Inv P σ sp S T)(a:Al (.par P) N σ σ'):Pt.Inv P σ' sp S T:=by
 have ht:=a.t;have h1:=h.p1
 have hpl:∀t,σ'.get (Pt.place P t)=σ.get (Pt.place P t):=fun t=>a.get _ (by
  obtain⟨x,x0,x1,e⟩:=Pt.place_in h.p1 t;show P.next≤Pt.place P t∧Pt.place P t≤P.next+P.parts;rw[e];omega)
 exact {h with hl:=a.l,n2:=by have:=h.n2;omega,gT:=(a.get P.next ⟨Int.le_refl _,by omega⟩).trans h.gT,srv:=(hpl _).trans h.srv,low:=fun x x0 x1=>(a.get (P.next+1+x) ⟨by omega,by omega⟩)▸h.low x x0 x1}
theorem al_mc {P:Mc.Par}{σ σ':Ar}{sp:List Sp}{q:List Int}(h:Mc.Inv P σ sp q)(a:Al (.mcs P) sp.length σ σ'):Mc.Inv P σ' sp q:=by
 have ht:=a.t;have hn:∀i:Int,0≤i→i<sp.length→σ'.get (Mc.nx P (i+1))=σ.get (Mc.nx P (i+1)):=fun i i0 i1=>a.get _ (by show P.tail≤Mc.nx P (i+1)∧Mc.nx P (i+1)≤P.tail+2*sp.length;unfold Mc.nx;omega);have hw:∀i:Int,0≤i→i<sp.length→σ'.get (Mc.wt P (i+1))=σ.get (Mc.wt P (i+1)):=fun i i0 i1=>a.get _ (by show P.tail≤Mc.wt P (i+1)∧Mc.wt P (i+1)≤P.tail+2*sp.length;unfold Mc.wt;omega);have hr:∀i,(spOf sp i).pc≠0→0≤i∧i<sp.length:=fun i hi=>spOf_range hi;have hq:∀j,j∈q→0≤j∧j<sp.length:=fun j hj=>Mc.inq_range ((h.mem j).1 hj);refine {h with hl:=a.l,t2:=by have:=h.t2;omega,gT:=(a.get P.tail ⟨Int.le_refl _,by omega⟩).trans h.gT,ch:=h.ch.same (fun _ _=>rfl) (fun j hj=>hn j (hq j hj).1 (hq j hj).2) (fun j hj=>hw j (hq j (List.mem_of_mem_tail hj)).1 (hq j (List.mem_of_mem_tail hj)).2),hd:=fun i hi=>⟨(h.hd i hi).1,fun e=> ?_⟩,p2:=fun i hi=> ?_,p3:=fun i hi=> ?_,p14:=fun i hi=> ?_}
 ·obtain⟨r0,r1⟩:=hr i (by omega)
  rw[hw i r0 r1];exact(h.hd i hi).2 e
 ·obtain⟨r0,r1⟩:=hr i (by omega)
  rw[hn i r0 r1];exact h.p2 i hi
 ·obtain⟨r0,r1⟩:=hr i (by omega)
  rw[hw i r0 r1];exact h.p3 i hi
 ·obtain⟨r0,r1⟩:=hr i (by omega)
  rw[hn i r0 r1];exact h.p14 i hi
theorem al_cl {P:Cl.Par}{σ σ':Ar}{sp:List Sp}{z:Int}{q:List Int}(h:Cl.Inv P σ sp z q)(a:Al (.clh P) sp.length σ σ'):Cl.Inv P σ' sp z q:=by
 have ht:=a.t;have hb:∀n:Int,0≤n→n≤(sp.length:Int)+1→σ'.get (Cl.box P n)=σ.get (Cl.box P n):=fun n n0 n1=>a.get _ (by show P.tail≤Cl.box P n∧Cl.box P n≤P.tail+sp.length+1;unfold Cl.box;omega);have hz:=h.zr;refine {h with hl:=a.l,t2:=by have:=h.t2;omega,gz:=(hb z (by omega) (by omega)).trans h.gz,gT:=(a.get P.tail ⟨Int.le_refl _,by omega⟩).trans h.gT,g1:=fun i hi=> ?_};obtain⟨r0,r1⟩:=spOf_range (sp:=sp) (i:=i) (by unfold Cl.inq Cl.inn at hi;omega);have:=h.ar i r0 r1;rw[hb _ (by omega) (by omega)];exact h.g1 i hi
theorem OkK.al {p:PK}{σ σ':Ar}{sp:List Sp}{n m m':Nat}(h:OkK p σ sp n m)(a:Al p n σ σ')(ho:σ'.ops≤m'+1)(hm:m≤m'):OkK p σ' sp n m':=by
 cases p with
 |tas P=>have h:Ta.OkP P σ sp n m:=h;exact⟨al_ta h.inv a,ho,h.len⟩
 |tic P=>
  have h:Tk.OkP P σ sp n m:=h;obtain⟨S,T,hi,hT⟩:=h.inv;exact⟨⟨S,T,al_tk hi a,by omega⟩,ho,h.nx,h.len⟩
 |par P=>
  have h:Pt.OkP P σ sp n m:=h;obtain⟨S,T,hi,hT⟩:=h.inv;exact⟨⟨S,T,al_pt hi a,by omega⟩,ho,h.nx,h.len⟩
 |mcs P=>
  have h:Mc.OkP P σ sp n m:=h;obtain⟨q,hi⟩:=h.inv;have hl:=h.len;subst hl;exact⟨⟨q,al_mc hi a⟩,ho,h.nx,rfl,h.small⟩
 |clh P=>
  have h:Cl.OkP P σ sp n m:=h;obtain⟨z,q,hi⟩:=h.inv;have hl:=h.len;subst hl;exact⟨⟨z,q,al_cl hi a⟩,ho,h.nx,rfl,h.small⟩
structure Ow (p:PK)(N:Nat)(σ σ':Ar):Prop where
 get:∀q,¬inR p N q→σ'.get q=σ.get q
 t:σ'.t=σ.t
 l:σ'.ws.length=σ.ws.length
theorem Ow.refl (p:PK)(N:Nat)(σ:Ar):Ow p N σ σ:=⟨fun _ _=>rfl,rfl,rfl⟩
theorem Ow.op {p:PK}{N:Nat}{σ:Ar}(hl:σ.t≤σ.ws.length)(kd q v:Int)(wr:Bool)(hq:wr=true→inR p N q):Ow p N σ (σ.op kd q wr v):=
 by
 refine⟨fun x hx=> ?_,op_t _ _ _ _ _,op_len _ _ _ _ _⟩;rw[get_op σ hl];split
 ·rename_i h
  exact absurd (h.2.2▸hq h.2.1) hx
 ·rfl
theorem Ow.al {p p':PK}{N N':Nat}{σ σ':Ar}(h:Ow p N σ σ')(hl:σ.t≤σ.ws.length)(hd:∀q,inR p' N' q→¬inR p N q):Al p' N' σ σ':=
 ⟨fun q hq=>h.get q (hd q hq),by rw[h.t];exact Nat.le_refl _,by rw[h.t,h.l];exact hl⟩
theorem chain_pred {P:Mc.Par}{σ:Ar}{sp:List Sp}{q:List Int}(h:Mc.Chain P σ sp q){j:Int}(hj:j∈q.tail)(h4:(spOf sp j).pc=4):∃i,i∈q∧(spOf sp j).a=i+1:=by
 induction q with
 |nil=>simp at hj
 |cons i q ih=>
  cases q with
  |nil=>simp at hj
  |cons k q=>
   obtain⟨h1,h2,h3⟩:=h;have hj:j∈k::q:=hj;rcases List.mem_cons.1 hj with rfl|hj
   ·rcases h1 with h1|h1
    ·exact⟨i,by simp,h1.2.1⟩
    ·omega
   ·obtain⟨x,x1,x2⟩:=ih h3 hj
    exact⟨x,List.mem_cons_of_mem _ x1,x2⟩
theorem do_ow {p:PK}{σ:Ar}{sp:List Sp}{n m:Nat}(h:OkK p σ sp n m)(kd i:Int):Ow p n σ (doK p σ sp kd i).2.1:=by
 cases p with
 |tas P=>
  have h:Ta.OkP P σ sp n m:=h;have hl:=h.inv.hl;show Ow (.tas P) n σ (Ta.doP P σ sp kd i).2.1;unfold Ta.doP Ta.stepP
  repeat' (first|exact Ow.refl _ _ _|exact Ow.op hl _ _ _ _ (fun _=>rfl)|split)
 |tic P=>
  have h:Tk.OkP P σ sp n m:=h;obtain⟨S,T,hi,_⟩:=h.inv;have hl:=hi.hl;have hp:P.parts=1:=rfl
  have h2:∀t,inR (.tic P) n (Tk.place P t):=fun t=>by
   obtain⟨x,x0,x1,e⟩:=Tk.place_in hi.p1 t;show P.next≤Tk.place P t∧Tk.place P t≤P.next+1;rw[e];omega
  have h1:inR (.tic P) n P.next:=⟨Int.le_refl _,by omega⟩;show Ow (.tic P) n σ (Tk.doP P σ sp kd i).2.1;unfold Tk.doP Tk.stepP Tk.aloneP
  repeat' (first|exact Ow.refl _ _ _|exact Ow.op hl _ _ _ _ (fun _=>h1)|exact Ow.op hl _ _ _ _ (fun _=>h2 _)|split)
 |par P=>
  have h:Pt.OkP P σ sp n m:=h;obtain⟨S,T,hi,_⟩:=h.inv;have hl:=hi.hl;have hp:=hi.p1
  have h2:∀t,inR (.par P) n (Pt.place P t):=fun t=>by
   obtain⟨x,x0,x1,e⟩:=Pt.place_in hi.p1 t;show P.next≤Pt.place P t∧Pt.place P t≤P.next+P.parts;rw[e];omega
  have h1:inR (.par P) n P.next:=⟨Int.le_refl _,by omega⟩;show Ow (.par P) n σ (Pt.doP P σ sp kd i).2.1;unfold Pt.doP Pt.stepP Pt.aloneP
  repeat' (first|exact Ow.refl _ _ _|exact Ow.op hl _ _ _ _ (fun _=>h1)|exact Ow.op hl _ _ _ _ (fun _=>h2 _)|split)
 |mcs P=>
  have h:Mc.OkP P σ sp n m:=h;obtain⟨q,hi⟩:=h.inv;have hl:=hi.hl;have hlen:=h.len;have h0:inR (.mcs P) n P.tail:=⟨Int.le_refl _,by omega⟩;have hn:∀x:Int,1≤x→x≤n→inR (.mcs P) n (Mc.nx P x):=fun x x0 x1=>by show P.tail≤Mc.nx P x∧Mc.nx P x≤P.tail+2*n;unfold Mc.nx;omega
  have hw:∀x:Int,0≤x→x≤n→inR (.mcs P) n (Mc.wt P x):=fun x x0 x1=>by show P.tail≤Mc.wt P x∧Mc.wt P x≤P.tail+2*n;unfold Mc.wt;omega
  have hr:(spOf sp i).pc≠0→0≤i∧i<sp.length:=fun e=>spOf_range e;have ha:=hi.ar i;show Ow (.mcs P) n σ (Mc.doP P σ sp kd i).2.1;unfold Mc.doP;by_cases k0:kd=0
  ·rw[if_pos k0]
   rcases mcpcs hi i with e|e|e|e|e|e|e|e|e|e|e
   ·rw[Mc.step_no (.inl e)];exact Ow.refl _ _ _
   ·have:=hr (by omega);rw[Mc.step_1 e];exact Ow.op hl _ _ _ _ (fun _=>hn _ (by omega) (by omega))
   ·have:=hr (by omega);rw[Mc.step_2 e];exact Ow.op hl _ _ _ _ (fun _=>hw _ (by omega) (by omega))
   ·rw[Mc.step_3 e];exact Ow.op hl _ _ _ _ (fun _=>h0)
   ·have hq:i∈q:=(hi.mem i).2 (.inl e)
    have ht:i∈q.tail:=by
     cases q with
     |nil=>simp at hq
     |cons u l=>
      rcases List.mem_cons.1 hq with rfl|hq
      ·exact absurd e (hi.hd i rfl).1
      ·exact hq
    obtain⟨u,u1,u2⟩:=chain_pred hi.ch ht e;have:=hi.range u u1;rw[Mc.step_4 e];exact Ow.op hl _ _ _ _ (fun _=>hn _ (by omega) (by omega))
   ·rw[Mc.step_5 e];exact Ow.op hl _ _ _ _ (fun h=>by cases h)
   ·rw[Mc.step_no (.inr e)];exact Ow.refl _ _ _
   ·rw[Mc.step_look (.inl e)];exact Ow.op hl _ _ _ _ (fun h=>by cases h)
   ·rw[Mc.step_12 e];exact Ow.op hl _ _ _ _ (fun _=>h0)
   ·rw[Mc.step_look (.inr e)];exact Ow.op hl _ _ _ _ (fun h=>by cases h)
   ·rw[Mc.step_14 e];exact Ow.op hl _ _ _ _ (fun _=>hw _ (by omega) (by omega))
  ·rw[if_neg k0]
   unfold Mc.aloneP
   repeat' (first|exact Ow.refl _ _ _|exact Ow.op hl _ _ _ _ (fun h=>by cases h)|split)
 |clh P=>
  have h:Cl.OkP P σ sp n m:=h;obtain⟨z,q,hi⟩:=h.inv;have hl:=hi.hl;have hlen:=h.len;have hb:∀x:Int,0≤x→x≤(n:Int)+1→inR (.clh P) n (Cl.box P x):=fun x x0 x1=>by show P.tail≤Cl.box P x∧Cl.box P x≤P.tail+n+1;unfold Cl.box;omega
  have ha:(spOf sp i).pc≠0→1≤(spOf sp i).a∧(spOf sp i).a≤sp.length+1:=fun e=>by
   have:=spOf_range (sp:=sp) (i:=i) e;exact hi.ar i this.1 this.2
  show Ow (.clh P) n σ (Cl.doP P σ sp kd i).2.1;unfold Cl.doP;by_cases k0:kd=0
  ·rw[if_pos k0]
   rcases clpcs hi i with e|e|e|e|e|e
   ·rw[Cl.step_no (.inl e)];exact Ow.refl _ _ _
   ·have:=ha (by omega);rw[Cl.step_1 e];exact Ow.op hl _ _ _ _ (fun _=>hb _ (by omega) (by omega))
   ·rw[Cl.step_2 e];exact Ow.op hl _ _ _ _ (fun _=>show P.tail≤P.tail∧P.tail≤P.tail+n+1 by omega)
   ·rw[Cl.step_3 e];exact Ow.op hl _ _ _ _ (fun h=>by cases h)
   ·rw[Cl.step_no (.inr e)];exact Ow.refl _ _ _
   ·have:=ha (by omega);rw[Cl.step_11 e];exact Ow.op hl _ _ _ _ (fun _=>hb _ (by omega) (by omega))
  ·rw[if_neg k0]
   unfold Cl.aloneP
   repeat' (first|exact Ow.refl _ _ _|exact Ow.op hl _ _ _ _ (fun h=>by cases h)|split)
end Go.Proofs.YtfmiioddhpkdkaaGreat.Fl
namespace Go.Proofs.YtfmiioddhpkdkaaGreat.Fl
open Go.RowKit Ara Lok
theorem PK.At.arena {p:PK}{S:List Nat}{W W':World}{gl ga ha hs:Nat}{σ σ':Ar}{sp:List Sp}(k:p.At W gl ga ha hs σ sp)(hm:Mod S W W')(h1:gl∉S)(h4:hs∉S)(ha':ArAt W' ga ha σ'):p.At W' gl ga ha hs σ' sp:=by
 cases p with
 |tas P=>obtain⟨k1,k2,k3,⟨c,k4⟩,k5⟩:=k;exact⟨ha',k2.mod hm h4,k3,⟨c,hm.blk k4 h1⟩,k5⟩
 |tic P=>obtain⟨k1,k2,k3,⟨c,k4⟩,k5⟩:=k;exact⟨ha',k2.mod hm h4,k3,⟨c,hm.blk k4 h1⟩,k5⟩
 |par P=>obtain⟨k1,k2,k3,⟨c,k4⟩,k5⟩:=k;exact⟨ha',k2.mod hm h4,k3,⟨c,hm.blk k4 h1⟩,k5⟩
 |mcs P=>obtain⟨k1,k2,k3,⟨c,k4⟩,k5⟩:=k;exact⟨ha',k2.mod hm h4,k3,⟨c,hm.blk k4 h1⟩,k5⟩
 |clh P=>obtain⟨k1,k2,k3,⟨c,k4⟩,k5⟩:=k;exact⟨ha',k2.mod hm h4,k3,⟨c,hm.blk k4 h1⟩,k5⟩
theorem FLAt.arena {S:List Nat}{W W':World}{gf gl ga ha hs:Nat}{p:PK}{σ σ':Ar}{sp:List Sp}(k:FLAt W gf gl ga ha hs p σ sp)(hm:Mod S W W')(h0:gf∉S)(h1:gl∉S)(h4:hs∉S)(ha':ArAt W' ga ha σ'):FLAt W' gf gl ga ha hs p σ' sp:=
 ⟨FlB.mod k.fb hm h0,k.at_.arena hm h1 h4 ha',k.n1,k.n2,k.n3⟩
theorem inR_new {kind par:Int}{n a:Nat}(hM:mayK kind n par){q:Int}(h:inR (pkK kind par a) n q):(a:Int)≤q∧q<(a:Int)+sizeK kind n par:=by
 obtain⟨⟨k1,k5⟩,⟨n1,n2⟩,ha1,ha3⟩:=hM;rcases(show kind=1∨kind=2∨kind=3∨kind=4∨kind=5 by omega)with rfl|rfl|rfl|rfl|rfl
 ·have h:q=(a:Int):=h
  have hz:sizeK 1 n par=1:=rfl;omega
 ·have h:(a:Int)≤q∧q≤(a:Int)+1:=h
  have hz:sizeK 2 n par=2:=rfl;omega
 ·have h:(a:Int)≤q∧q≤(a:Int)+par:=h
  have hz:sizeK 3 n par=1+par.toNat:=rfl;have:=ha3 rfl;omega
 ·have h:(a:Int)≤q∧q≤(a:Int)+2*n:=h
  have hz:sizeK 4 n par=1+2*n:=rfl;omega
 ·have h:(a:Int)≤q∧q≤(a:Int)+n+1:=h
  have hz:sizeK 5 n par=n+2:=rfl;omega
end Go.Proofs.YtfmiioddhpkdkaaGreat.Fl
namespace Go.Proofs.YtfmiioddhpkdkaaGreat.Ga
open Go.RowKit Ara Lok
def gst (s:Sp):Int:=if s.pc=0 then 0 else if s.pc<10 then 1 else if s.pc=10 then 2 else 3
end Go.Proofs.YtfmiioddhpkdkaaGreat.Ga
namespace Go.Proofs.YtfmiioddhpkdkaaGreat.Ga
open Go.RowKit Ara Lok Fl
def St (s:Sp)(b:Bool)(s':Sp):Prop:=(gst s=1→gst s'=if b=true then 2 else 1)∧(gst s=3→gst s'=if b=true then 0 else 3)
theorem gst_1 {s:Sp}(h:s.pc≠0∧s.pc<10):gst s=1:=by unfold gst;rw[if_neg h.1,if_pos h.2]
theorem gst_2 {s:Sp}(h:s.pc=10):gst s=2:=by unfold gst;rw[if_neg (by omega),if_neg (by omega),if_pos h]
theorem gst_3 {s:Sp}(h:10<s.pc):gst s=3:=by unfold gst;rw[if_neg (by omega),if_neg (by omega),if_neg (by omega)]
theorem gst_0 {s:Sp}(h:s.pc=0):gst s=0:=by unfold gst;rw[if_pos h]
theorem St.no {s s':Sp}(h:gst s'=gst s):St s false s':=⟨fun e=>by rw[h,e];rfl,fun e=>by rw[h,e];rfl⟩
theorem St.c0 {s s':Sp}(h:s.pc≠0∧s.pc<10)(h':s'.pc≠0∧s'.pc<10):St s false s':= .no (by rw[gst_1 h,gst_1 h'])
theorem St.c1 {s s':Sp}(h:s.pc≠0∧s.pc<10)(h':s'.pc=10):St s true s':=⟨fun _=>gst_2 h',fun e=>by rw[gst_1 h]at e;omega⟩
theorem St.g0 {s s':Sp}(h:10<s.pc)(h':10<s'.pc):St s false s':= .no (by rw[gst_3 h,gst_3 h'])
theorem St.g1 {s s':Sp}(h:10<s.pc)(h':s'.pc=0):St s true s':=⟨fun e=>by rw[gst_3 h]at e;omega,fun _=>gst_0 h'⟩
def StepW (r:Bool×Ar×List Sp)(sp:List Sp)(k:Nat)(s:Sp):Prop:=∃s',r.2.2=sp.set k s'∧St s r.1 s'
theorem same_w {sp:List Sp}{k:Nat}(hk:k<sp.length)(σ:Ar):StepW (false,σ,sp) sp k sp[k]:=⟨sp[k],by rw[List.set_getElem_self],.no rfl⟩
section
variable(σ:Ar)(sp:List Sp)(k:Nat)(hk:k<sp.length)
include hk
theorem sw_ta (P:Ta.Par):StepW (Ta.stepP P σ sp k) sp k sp[k]:=by
 unfold Ta.stepP;rw[spOf_in hk,Int.toNat_natCast];by_cases h1:sp[k].pc=1
 ·rw[if_pos h1]
  cases hb:Ta.tryB P σ with
  |true=>exact⟨_,rfl,St.c1 (by omega) rfl⟩
  |false=>exact⟨_,rfl,St.c0 (by omega) (by simp)⟩
 rw[if_neg h1];by_cases h2:sp[k].pc=2
 ·rw[if_pos h2]
  exact⟨_,rfl,St.c0 (by omega) (by simp only;split<;>omega)⟩
 rw[if_neg h2];by_cases h3:sp[k].pc=11
 ·rw[if_pos h3]
  exact⟨_,rfl,St.g1 (by omega) rfl⟩
 rw[if_neg h3];exact same_w hk σ
theorem sw_tk (P:Tk.Par):StepW (Tk.stepP P σ sp k) sp k sp[k]:=by
 unfold Tk.stepP;rw[spOf_in hk,Int.toNat_natCast];by_cases h1:sp[k].pc=1
 ·rw[if_pos h1]
  exact⟨_,rfl,St.c0 (by omega) (by simp)⟩
 rw[if_neg h1];by_cases h2:sp[k].pc=2
 ·rw[if_pos h2]
  by_cases hc:σ.get (Tk.place P sp[k].a)=sp[k].a
  ·exact⟨_,if_pos hc,by rw[show(σ.get (Tk.place P sp[k].a)==sp[k].a)=true from by simpa using hc];exact St.c1 (by omega) rfl⟩
  ·exact⟨sp[k],by show(if _ then _ else _)=_;rw[if_neg hc,List.set_getElem_self],by rw[show(σ.get (Tk.place P sp[k].a)==sp[k].a)=false from by simpa using hc];exact .no rfl⟩
 rw[if_neg h2];by_cases h3:sp[k].pc=11
 ·rw[if_pos h3]
  exact⟨_,rfl,St.g1 (by omega) rfl⟩
 rw[if_neg h3];exact same_w hk σ
theorem sw_pt (P:Pt.Par):StepW (Pt.stepP P σ sp k) sp k sp[k]:=by
 unfold Pt.stepP;rw[spOf_in hk,Int.toNat_natCast];by_cases h1:sp[k].pc=1
 ·rw[if_pos h1]
  exact⟨_,rfl,St.c0 (by omega) (by simp)⟩
 rw[if_neg h1];by_cases h2:sp[k].pc=2
 ·rw[if_pos h2]
  by_cases hc:σ.get (Pt.place P sp[k].a)=sp[k].a+1
  ·exact⟨_,if_pos hc,by rw[show(σ.get (Pt.place P sp[k].a)==sp[k].a+1)=true from by simpa using hc];exact St.c1 (by omega) rfl⟩
  ·exact⟨sp[k],by show(if _ then _ else _)=_;rw[if_neg hc,List.set_getElem_self],by rw[show(σ.get (Pt.place P sp[k].a)==sp[k].a+1)=false from by simpa using hc];exact .no rfl⟩
 rw[if_neg h2];by_cases h3:sp[k].pc=11
 ·rw[if_pos h3]
  exact⟨_,rfl,St.g1 (by omega) rfl⟩
 rw[if_neg h3];exact same_w hk σ
theorem sw_cl (P:Cl.Par):StepW (Cl.stepP P σ sp k) sp k sp[k]:=by
 unfold Cl.stepP;rw[spOf_in hk,Int.toNat_natCast];by_cases h1:sp[k].pc=1
 ·rw[if_pos h1]
  exact⟨_,rfl,St.c0 (by omega) (by simp)⟩
 rw[if_neg h1];by_cases h2:sp[k].pc=2
 ·rw[if_pos h2]
  exact⟨_,rfl,St.c0 (by omega) (by simp)⟩
 rw[if_neg h2];by_cases h2:sp[k].pc=3
 ·rw[if_pos h2]
  by_cases hc:σ.get (Cl.box P sp[k].b)=0
  ·exact⟨_,if_pos hc,by rw[show(σ.get (Cl.box P sp[k].b)==0)=true from by simpa using hc];exact St.c1 (by omega) rfl⟩
  ·exact⟨sp[k],by show(if _ then _ else _)=_;rw[if_neg hc,List.set_getElem_self],by rw[show(σ.get (Cl.box P sp[k].b)==0)=false from by simpa using hc];exact .no rfl⟩
 rw[if_neg h2];by_cases h3:sp[k].pc=11
 ·rw[if_pos h3]
  exact⟨_,rfl,St.g1 (by omega) rfl⟩
 rw[if_neg h3];exact same_w hk σ
theorem sw_mc (P:Mc.Par):StepW (Mc.stepP P σ sp k) sp k sp[k]:=by
 unfold Mc.stepP;rw[spOf_in hk,Int.toNat_natCast];by_cases h1:sp[k].pc=1
 ·rw[if_pos h1]
  exact⟨_,rfl,St.c0 (by omega) (by simp)⟩
 rw[if_neg h1];by_cases h2:sp[k].pc=2
 ·rw[if_pos h2]
  exact⟨_,rfl,St.c0 (by omega) (by simp)⟩
 rw[if_neg h2];by_cases h3:sp[k].pc=3
 ·rw[if_pos h3]
  by_cases hc:σ.get P.tail=0
  ·exact⟨_,rfl,by rw[show(σ.get P.tail==0)=true from by simpa using hc];exact St.c1 (by omega) (if_pos hc)⟩
  ·exact⟨_,rfl,by rw[show(σ.get P.tail==0)=false from by simpa using hc];exact St.c0 (by omega) (by simp only[if_neg hc];omega)⟩
 rw[if_neg h3];by_cases h4:sp[k].pc=4
 ·rw[if_pos h4]
  exact⟨_,rfl,St.c0 (by omega) (by simp)⟩
 rw[if_neg h4];by_cases h5:sp[k].pc=5
 ·rw[if_pos h5]
  by_cases hc:σ.get (Mc.wt P ((k:Int)+1))=0
  ·exact⟨_,rfl,by rw[show(σ.get (Mc.wt P ((k:Int)+1))==0)=true from by simpa using hc];exact St.c1 (by omega) (if_pos hc)⟩
  ·exact⟨_,rfl,by rw[show(σ.get (Mc.wt P ((k:Int)+1))==0)=false from by simpa using hc];exact St.c0 (by omega) (by simp only[if_neg hc];omega)⟩
 rw[if_neg h5];by_cases h6:sp[k].pc=11
 ·rw[if_pos h6]
  exact⟨_,rfl,St.g0 (by omega) (by simp only;split<;>omega)⟩
 rw[if_neg h6];by_cases h7:sp[k].pc=12
 ·rw[if_pos h7]
  cases hc:(σ.has P.tail&&(σ.get P.tail==(k:Int)+1))with
  |true=>exact⟨_,rfl,St.g1 (by omega) (by simp)⟩
  |false=>exact⟨_,rfl,St.g0 (by omega) (by simp)⟩
 rw[if_neg h7];by_cases h8:sp[k].pc=13
 ·rw[if_pos h8]
  exact⟨_,rfl,St.g0 (by omega) (by simp only;split<;>omega)⟩
 rw[if_neg h8];by_cases h9:sp[k].pc=14
 ·rw[if_pos h9]
  exact⟨_,rfl,St.g1 (by omega) rfl⟩
 rw[if_neg h9];exact same_w hk σ
theorem sw_k (p:PK):StepW (doK p σ sp 0 k) sp k sp[k]:=by
 cases p with
 |tas P=>exact sw_ta σ sp k hk P
 |tic P=>exact sw_tk σ sp k hk P
 |par P=>exact sw_pt σ sp k hk P
 |mcs P=>exact sw_mc σ sp k hk P
 |clh P=>exact sw_cl σ sp k hk P
end
end Go.Proofs.YtfmiioddhpkdkaaGreat.Ga
