/- Merged texts: Qu2, Fr1, Fr2, Gst, GaP, Qu3, Fr3, Co1. -/
import Derived.Test.YtfmiioddhpkdkaaGreatWh17
set_option linter.unusedVariables false
set_option linter.unusedSimpArgs false
namespace Go.Proofs.YtfmiioddhpkdkaaGreat.Fl
open Go.RowKit Go.Proofs.YtfmiioddhpkdkaaGreat.Ara Go.Proofs.YtfmiioddhpkdkaaGreat.Lok
def dr:PK→Int
 |.tas _=>0
 |.tic _=>1
 |.par _=>1
 |.mcs _=>3
 |.clh _=>2
def QuK:PK→Ar→List Sp→List Int→Prop
 |.tas _,_,_,_=>False
 |.tic P,σ,sp,q=>Tkq P σ sp q
 |.par P,σ,sp,q=>Ptq P σ sp q
 |.mcs P,σ,sp,q=>Mc.Inv P σ sp q
 |.clh P,σ,sp,q=>∃z,Cl.Inv P σ sp z q
theorem Tkq.pcs {P:Tk.Par}{σ:Ar}{sp:List Sp}{q:List Int}(h:Tkq P σ sp q)(i:Int):(spOf sp i).pc=0∨(spOf sp i).pc=1∨(spOf sp i).pc=2∨(spOf sp i).pc=10∨(spOf sp i).pc=11:=by
 obtain⟨S,T,hi,_⟩:=h;have:=hi.pcs i;unfold Tk.inq at this;omega
theorem Ptq.pcs {P:Pt.Par}{σ:Ar}{sp:List Sp}{q:List Int}(h:Ptq P σ sp q)(i:Int):(spOf sp i).pc=0∨(spOf sp i).pc=1∨(spOf sp i).pc=2∨(spOf sp i).pc=10∨(spOf sp i).pc=11:=by
 obtain⟨S,T,hi,_⟩:=h;have:=hi.pcs i;unfold Pt.inq at this;omega
theorem clpcs {P:Cl.Par}{σ:Ar}{sp:List Sp}{z:Int}{q:List Int}(h:Cl.Inv P σ sp z q)(i:Int):(spOf sp i).pc=0∨(spOf sp i).pc=1∨(spOf sp i).pc=2∨(spOf sp i).pc=3∨(spOf sp i).pc=10∨(spOf sp i).pc=11:=by
 have:=h.pcs i;unfold Cl.inq Cl.inn at this;omega
theorem mcpcs {P:Mc.Par}{σ:Ar}{sp:List Sp}{q:List Int}(h:Mc.Inv P σ sp q)(i:Int):(spOf sp i).pc=0∨(spOf sp i).pc=1∨(spOf sp i).pc=2∨(spOf sp i).pc=3∨(spOf sp i).pc=4∨(spOf sp i).pc=5∨(spOf sp i).pc=10∨(spOf sp i).pc=11∨(spOf sp i).pc=12∨(spOf sp i).pc=13∨(spOf sp i).pc=14:=by
 have:=h.pcs i;unfold Mc.inq Mc.outs at this;omega
section
variable {p:PK}{σ:Ar}{sp:List Sp}{q:List Int}(h:QuK p σ sp q)
include h
theorem QuK.mem (i:Int):i∈q↔dr p<(spOf sp i).pc:=by
 cases p with
 |tas P=>exact absurd h id
 |tic P=>have h:Tkq P σ sp q:=h;rw[h.mem i];have:=h.pcs i;unfold Tk.inq;show _↔(1:Int)<_;omega
 |par P=>have h:Ptq P σ sp q:=h;rw[h.mem i];have:=h.pcs i;unfold Pt.inq;show _↔(1:Int)<_;omega
 |mcs P=>have h:Mc.Inv P σ sp q:=h;rw[h.mem i];have:=mcpcs h i;unfold Mc.inq Mc.outs;show _↔(3:Int)<_;omega
 |clh P=>obtain⟨z,h⟩:=h;rw[h.mem i];have:=clpcs h i;unfold Cl.inq Cl.inn;show _↔(2:Int)<_;omega
theorem QuK.nodup:q.Nodup:=by
 cases p with
 |tas P=>exact absurd h id
 |tic P=>exact Tkq.nodup h
 |par P=>exact Ptq.nodup h
 |mcs P=>exact Mc.Inv.nd h
 |clh P=>obtain⟨z,h⟩:=h;exact h.nd
theorem QuK.head {i:Int}(hp:10≤(spOf sp i).pc):q.head? =some i:=by
 cases p with
 |tas P=>exact absurd h id
 |tic P=>have h:Tkq P σ sp q:=h;exact h.head (by have:=h.pcs i;omega)
 |par P=>have h:Ptq P σ sp q:=h;exact h.head (by have:=h.pcs i;omega)
 |mcs P=>have h:Mc.Inv P σ sp q:=h;exact h.first i (by have:=mcpcs h i;unfold Mc.outs;omega)
 |clh P=>obtain⟨z,h⟩:=h;exact h.first i (by have:=clpcs h i;unfold Cl.inn;omega)
theorem QuK.ask (i:Int):QuK p (doK p σ sp 1 i).2.1 (doK p σ sp 1 i).2.2 q:=by
 cases p with
 |tas P=>exact absurd h id
 |tic P=>exact Tkq.ask h i
 |par P=>exact Ptq.ask h i
 |mcs P=>exact Mc.inv_ask h
 |clh P=>obtain⟨z,h⟩:=h;exact⟨z,Cl.inv_ask h i⟩
theorem QuK.leave (i:Int):QuK p (doK p σ sp 2 i).2.1 (doK p σ sp 2 i).2.2 q:=by
 cases p with
 |tas P=>exact absurd h id
 |tic P=>exact Tkq.leave h i
 |par P=>exact Ptq.leave h i
 |mcs P=>exact Mc.inv_leave h
 |clh P=>obtain⟨z,h⟩:=h;exact⟨z,Cl.inv_leave h i⟩
theorem QuK.alone (i:Int):QuK p (doK p σ sp 3 i).2.1 (doK p σ sp 3 i).2.2 q:=by
 cases p with
 |tas P=>exact absurd h id
 |tic P=>exact Tkq.alone h i
 |par P=>exact Ptq.alone h i
 |mcs P=>exact Mc.inv_alone h
 |clh P=>obtain⟨z,h⟩:=h;exact⟨z,Cl.inv_alone h i⟩
end
def QTurn (p:PK)(sp:List Sp)(q:List Int)(i:Int)(r:Bool×Ar×List Sp):Prop:=
 ((0<(spOf sp i).pc∧(spOf sp i).pc=dr p)∧QuK p r.2.1 r.2.2 (q++ [i]))∨(10<(spOf sp i).pc∧r.1=true∧∃t,q=i::t∧QuK p r.2.1 r.2.2 t)∨((spOf sp i).pc≠dr p∧¬(10<(spOf sp i).pc∧r.1=true)∧QuK p r.2.1 r.2.2 q)
theorem QuK.step {p:PK}{σ:Ar}{sp:List Sp}{q:List Int}(h:QuK p σ sp q)(i:Int):QTurn p sp q i (doK p σ sp 0 i):=by
 unfold QTurn;cases p with
 |tas P=>exact absurd h id
 |tic P=>
  have h:Tkq P σ sp q:=h;rcases h.step i with⟨a,b⟩|⟨a,b,c⟩|⟨a,b,c⟩
  ·exact .inl ⟨⟨by omega,a⟩,b⟩
  ·exact .inr (.inl ⟨by omega,b,c⟩)
  ·exact .inr (.inr ⟨a,fun e=>by have:=h.pcs i;omega,c⟩)
 |par P=>
  have h:Ptq P σ sp q:=h;rcases h.step i with⟨a,b⟩|⟨a,b,c⟩|⟨a,b,c⟩
  ·exact .inl ⟨⟨by omega,a⟩,b⟩
  ·exact .inr (.inl ⟨by omega,b,c⟩)
  ·exact .inr (.inr ⟨a,fun e=>by have:=h.pcs i;omega,c⟩)
 |mcs P=>
  have h:Mc.Inv P σ sp q:=h;show((0<(spOf sp i).pc∧(spOf sp i).pc=3)∧Mc.Inv P (Mc.stepP P σ sp i).2.1 (Mc.stepP P σ sp i).2.2 (q++ [i]))∨(10<(spOf sp i).pc∧(Mc.stepP P σ sp i).1=true∧∃t,q=i::t∧Mc.Inv P (Mc.stepP P σ sp i).2.1 (Mc.stepP P σ sp i).2.2 t)∨((spOf sp i).pc≠3∧¬(10<(spOf sp i).pc∧(Mc.stepP P σ sp i).1=true)∧Mc.Inv P (Mc.stepP P σ sp i).2.1 (Mc.stepP P σ sp i).2.2 q);rcases mcpcs h i with e|e|e|e|e|e|e|e|e|e|e
  ·rw[Mc.step_no (.inl e)];exact .inr (.inr ⟨by omega,by omega,h⟩)
  ·rw[Mc.step_1 e];exact .inr (.inr ⟨by omega,by omega,Mc.inv_1 h e⟩)
  ·rw[Mc.step_2 e];exact .inr (.inr ⟨by omega,by omega,Mc.inv_2 h e⟩)
  ·rw[Mc.step_3 e];exact .inl ⟨⟨by omega,e⟩,Mc.inv_3 h e⟩
  ·rw[Mc.step_4 e];exact .inr (.inr ⟨by omega,by omega,(Mc.inv_4 h e).1⟩)
  ·rw[Mc.step_5 e]
   by_cases hg:σ.get (Mc.wt P (i+1))=0
   ·simp only[if_pos hg];exact .inr (.inr ⟨by omega,by omega,(Mc.inv_5 h e hg).1⟩)
   ·obtain⟨i0,i1⟩:=spOf_range (sp:=sp) (i:=i) (by omega)
    simp only[if_neg hg];rw[Mc.set_same i0 i1 (by rw[←e])];exact .inr (.inr ⟨by omega,by omega,h.read _ _⟩)
  ·rw[Mc.step_no (.inr e)];exact .inr (.inr ⟨by omega,by omega,h⟩)
  ·rw[Mc.step_look (.inl e)];exact .inr (.inr ⟨by omega,by simp,Mc.inv_look h (.inl e)⟩)
  ·rw[Mc.step_12 e,h.casB]
   by_cases hc:Mc.tailOf q=i+1
   ·rw[decide_eq_true hc]
    simp only[if_true];obtain⟨h1,h2⟩:=Mc.inv_12 h e hc;exact .inr (.inl ⟨by omega,by trivial,[],h2,h1⟩)
   ·rw[decide_eq_false hc]
    simp only[Bool.false_eq_true,if_false];exact .inr (.inr ⟨by omega,by simp,Mc.inv_12b h e hc⟩)
  ·rw[Mc.step_look (.inr e)];exact .inr (.inr ⟨by omega,by simp,Mc.inv_look h (.inr e)⟩)
  ·rw[Mc.step_14 e]
   obtain⟨j,t,h1,_,hI⟩:=Mc.inv_14 h e;exact .inr (.inl ⟨by omega,rfl,j::t,h1,hI⟩)
 |clh P=>
  obtain⟨z,h⟩:=h;show((0<(spOf sp i).pc∧(spOf sp i).pc=2)∧∃z,Cl.Inv P (Cl.stepP P σ sp i).2.1 (Cl.stepP P σ sp i).2.2 z (q++ [i]))∨(10<(spOf sp i).pc∧(Cl.stepP P σ sp i).1=true∧∃t,q=i::t∧∃z,Cl.Inv P (Cl.stepP P σ sp i).2.1 (Cl.stepP P σ sp i).2.2 z t)∨((spOf sp i).pc≠2∧¬(10<(spOf sp i).pc∧(Cl.stepP P σ sp i).1=true)∧∃z,Cl.Inv P (Cl.stepP P σ sp i).2.1 (Cl.stepP P σ sp i).2.2 z q);rcases clpcs h i with e|e|e|e|e|e
  ·rw[Cl.step_no (.inl e)];exact .inr (.inr ⟨by omega,by omega,z,h⟩)
  ·rw[Cl.step_1 e];exact .inr (.inr ⟨by omega,by omega,z,Cl.inv_1 h e⟩)
  ·rw[Cl.step_2 e];exact .inl ⟨⟨by omega,e⟩,z,Cl.inv_2 h e⟩
  ·rw[Cl.step_3 e]
   by_cases hg:σ.get (Cl.box P (spOf sp i).b)=0
   ·simp only[if_pos hg];exact .inr (.inr ⟨by omega,by omega,z,Cl.inv_3 h e hg⟩)
   ·simp only[if_neg hg];exact .inr (.inr ⟨by omega,by omega,z,h.read _ _⟩)
  ·rw[Cl.step_no (.inr e)];exact .inr (.inr ⟨by omega,by omega,z,h⟩)
  ·rw[Cl.step_11 e]
   have hh:=h.first i (.inr e);refine .inr (.inl ⟨by omega,rfl,q.tail,?_,_,Cl.inv_11 h e⟩);cases q with
   |nil=>simp at hh
   |cons a t=>simp at hh;rw[hh];rfl
end Go.Proofs.YtfmiioddhpkdkaaGreat.Fl
namespace Go.Proofs.YtfmiioddhpkdkaaGreat.Fl
open Go.RowKit Go.Proofs.YtfmiioddhpkdkaaGreat.Ara Go.Proofs.YtfmiioddhpkdkaaGreat.Lok
def inR (p:PK)(N:Nat)(q:Int):Prop:=
 match p with
 |.tas P=>q=P.word
 |.tic P=>P.next≤q∧q≤P.next+1
 |.par P=>P.next≤q∧q≤P.next+P.parts
 |.mcs P=>P.tail≤q∧q≤P.tail+2*N
 |.clh P=>P.tail≤q∧q≤P.tail+N+1
structure Al (p:PK)(N:Nat)(σ σ':Ar):Prop where
 get:∀q,inR p N q→σ'.get q=σ.get q
 t:σ.t≤σ'.t
 l:σ'.t≤σ'.ws.length
theorem Al.has {p:PK}{N:Nat}{σ σ':Ar}(h:Al p N σ σ'){q:Int}(hq:σ.has q=true):σ'.has q=true:=by
 have:=h.t;unfold Ar.has at hq⊢;simp only[Bool.and_eq_true,decide_eq_true_eq]at hq⊢;omega
theorem Al.refl {p:PK}{N:Nat}{σ:Ar}(h:σ.t≤σ.ws.length):Al p N σ σ:=⟨fun _ _=>rfl,Nat.le_refl _,h⟩
theorem Al.trans {p:PK}{N:Nat}{σ σ' σ'':Ar}(h:Al p N σ σ')(h':Al p N σ' σ''):Al p N σ σ'':=⟨fun q hq=>(h'.get q hq).trans (h.get q hq),Nat.le_trans h.t h'.t,h'.l⟩
theorem al_ta {P:Ta.Par}{σ σ':Ar}{sp:List Sp}{N:Nat}(h:Ta.Inv P σ sp)(a:Al (.tas P) N σ σ'):Ta.Inv P σ' sp:=
 {h with hl:=a.l,hw:=a.has h.hw,hold:=fun i hi=>(a.get _ rfl).trans (h.hold i hi),free:=fun hf=>(a.get _ rfl).trans (h.free hf)}
theorem al_tk {P:Tk.Par}{σ σ':Ar}{sp:List Sp}{S T N:Nat}(h:Tk.Inv P σ sp S T)(a:Al (.tic P) N σ σ'):Tk.Inv P σ' sp S T:=by
 have ht:=a.t;have h1:P.parts=1:=rfl
 have hpl:∀t,σ'.get (Tk.place P t)=σ.get (Tk.place P t):=fun t=>a.get _ (by
  obtain⟨x,x0,x1,e⟩:=Tk.place_in h.p1 t;show P.next≤Tk.place P t∧Tk.place P t≤P.next+1;rw[e];omega)
 exact {h with hl:=a.l,n2:=by have:=h.n2;omega,gT:=(a.get P.next ⟨Int.le_refl _,by omega⟩).trans h.gT,srv:=(hpl _).trans h.srv,low:=fun x x0 x1=>(a.get (P.next+1+x) ⟨by omega,by omega⟩)▸h.low x x0 x1}
theorem al_pt {P:Pt.Par}{σ σ':Ar}{sp:List Sp}{S T N:Nat}(h:Pt.Inv P σ sp S T)(a:Al (.par P) N σ σ'):Pt.Inv P σ' sp S T:=by
 have ht:=a.t;have h1:=h.p1
 have hpl:∀t,σ'.get (Pt.place P t)=σ.get (Pt.place P t):=fun t=>a.get _ (by
  obtain⟨x,x0,x1,e⟩:=Pt.place_in h.p1 t;show P.next≤Pt.place P t∧Pt.place P t≤P.next+P.parts;rw[e];omega)
 exact {h with hl:=a.l,n2:=by have:=h.n2;omega,gT:=(a.get P.next ⟨Int.le_refl _,by omega⟩).trans h.gT,srv:=(hpl _).trans h.srv,low:=fun x x0 x1=>(a.get (P.next+1+x) ⟨by omega,by omega⟩)▸h.low x x0 x1}
theorem al_mc {P:Mc.Par}{σ σ':Ar}{sp:List Sp}{q:List Int}(h:Mc.Inv P σ sp q)(a:Al (.mcs P) sp.length σ σ'):Mc.Inv P σ' sp q:=by
 have ht:=a.t;have hn:∀i:Int,0≤i→i<sp.length→σ'.get (Mc.nx P (i+1))=σ.get (Mc.nx P (i+1)):=fun i i0 i1=>a.get _ (by show P.tail≤Mc.nx P (i+1)∧Mc.nx P (i+1)≤P.tail+2*sp.length;unfold Mc.nx;omega);have hw:∀i:Int,0≤i→i<sp.length→σ'.get (Mc.wt P (i+1))=σ.get (Mc.wt P (i+1)):=fun i i0 i1=>a.get _ (by show P.tail≤Mc.wt P (i+1)∧Mc.wt P (i+1)≤P.tail+2*sp.length;unfold Mc.wt;omega);have hr:∀i,(spOf sp i).pc≠0→0≤i∧i<sp.length:=fun i hi=>spOf_range hi;have hq:∀j,j∈q→0≤j∧j<sp.length:=fun j hj=>Mc.inq_range ((h.mem j).1 hj);refine {h with hl:=a.l,t2:=by have:=h.t2;omega,gT:=(a.get P.tail ⟨Int.le_refl _,by omega⟩).trans h.gT,ch:=h.ch.same (fun _ _=>rfl) (fun j hj=>hn j (hq j hj).1 (hq j hj).2) (fun j hj=>hw j (hq j (List.mem_of_mem_tail hj)).1 (hq j (List.mem_of_mem_tail hj)).2),hd:=fun i hi=>⟨(h.hd i hi).1,fun e=> ?_⟩,p2:=fun i hi=> ?_,p3:=fun i hi=> ?_,p14:=fun i hi=> ?_}
 ·obtain⟨r0,r1⟩:=hr i (by omega)
  rw[hw i r0 r1];exact(h.hd i hi).2 e
 ·obtain⟨r0,r1⟩:=hr i (by omega)
  rw[hn i r0 r1];exact h.p2 i hi
 ·obtain⟨r0,r1⟩:=hr i (by omega)
  rw[hw i r0 r1];exact h.p3 i hi
 ·obtain⟨r0,r1⟩:=hr i (by omega)
  rw[hn i r0 r1];exact h.p14 i hi
theorem al_cl {P:Cl.Par}{σ σ':Ar}{sp:List Sp}{z:Int}{q:List Int}(h:Cl.Inv P σ sp z q)(a:Al (.clh P) sp.length σ σ'):Cl.Inv P σ' sp z q:=by
 have ht:=a.t;have hb:∀n:Int,0≤n→n≤(sp.length:Int)+1→σ'.get (Cl.box P n)=σ.get (Cl.box P n):=fun n n0 n1=>a.get _ (by show P.tail≤Cl.box P n∧Cl.box P n≤P.tail+sp.length+1;unfold Cl.box;omega);have hz:=h.zr;refine {h with hl:=a.l,t2:=by have:=h.t2;omega,gz:=(hb z (by omega) (by omega)).trans h.gz,gT:=(a.get P.tail ⟨Int.le_refl _,by omega⟩).trans h.gT,g1:=fun i hi=> ?_};obtain⟨r0,r1⟩:=spOf_range (sp:=sp) (i:=i) (by unfold Cl.inq Cl.inn at hi;omega);have:=h.ar i r0 r1;rw[hb _ (by omega) (by omega)];exact h.g1 i hi
theorem OkK.al {p:PK}{σ σ':Ar}{sp:List Sp}{n m m':Nat}(h:OkK p σ sp n m)(a:Al p n σ σ')(ho:σ'.ops≤m'+1)(hm:m≤m'):OkK p σ' sp n m':=by
 cases p with
 |tas P=>have h:Ta.OkP P σ sp n m:=h;exact⟨al_ta h.inv a,ho,h.len⟩
 |tic P=>
  have h:Tk.OkP P σ sp n m:=h;obtain⟨S,T,hi,hT⟩:=h.inv;exact⟨⟨S,T,al_tk hi a,by omega⟩,ho,h.nx,h.len⟩
 |par P=>
  have h:Pt.OkP P σ sp n m:=h;obtain⟨S,T,hi,hT⟩:=h.inv;exact⟨⟨S,T,al_pt hi a,by omega⟩,ho,h.nx,h.len⟩
 |mcs P=>
  have h:Mc.OkP P σ sp n m:=h;obtain⟨q,hi⟩:=h.inv;have hl:=h.len;subst hl;exact⟨⟨q,al_mc hi a⟩,ho,h.nx,rfl,h.small⟩
 |clh P=>
  have h:Cl.OkP P σ sp n m:=h;obtain⟨z,q,hi⟩:=h.inv;have hl:=h.len;subst hl;exact⟨⟨z,q,al_cl hi a⟩,ho,h.nx,rfl,h.small⟩
theorem QuK.al {p:PK}{σ σ':Ar}{sp:List Sp}{q:List Int}(h:QuK p σ sp q)(a:Al p sp.length σ σ'):QuK p σ' sp q:=by
 cases p with
 |tas P=>exact absurd h id
 |tic P=>obtain⟨S,T,hi,h1⟩:=h;exact⟨S,T,al_tk hi a,h1⟩
 |par P=>obtain⟨S,T,hi,h1⟩:=h;exact⟨S,T,al_pt hi a,h1⟩
 |mcs P=>exact al_mc h a
 |clh P=>obtain⟨z,h⟩:=h;exact⟨z,al_cl h a⟩
structure Ow (p:PK)(N:Nat)(σ σ':Ar):Prop where
 get:∀q,¬inR p N q→σ'.get q=σ.get q
 t:σ'.t=σ.t
 l:σ'.ws.length=σ.ws.length
theorem Ow.refl (p:PK)(N:Nat)(σ:Ar):Ow p N σ σ:=⟨fun _ _=>rfl,rfl,rfl⟩
theorem Ow.op {p:PK}{N:Nat}{σ:Ar}(hl:σ.t≤σ.ws.length)(kd q v:Int)(wr:Bool)(hq:wr=true→inR p N q):Ow p N σ (σ.op kd q wr v):=
 by
 refine⟨fun x hx=> ?_,op_t _ _ _ _ _,op_len _ _ _ _ _⟩;rw[get_op σ hl];split
 ·rename_i h
  exact absurd (h.2.2▸hq h.2.1) hx
 ·rfl
theorem Ow.al {p p':PK}{N N':Nat}{σ σ':Ar}(h:Ow p N σ σ')(hl:σ.t≤σ.ws.length)(hd:∀q,inR p' N' q→¬inR p N q):Al p' N' σ σ':=
 ⟨fun q hq=>h.get q (hd q hq),by rw[h.t];exact Nat.le_refl _,by rw[h.t,h.l];exact hl⟩
theorem chain_pred {P:Mc.Par}{σ:Ar}{sp:List Sp}{q:List Int}(h:Mc.Chain P σ sp q){j:Int}(hj:j∈q.tail)(h4:(spOf sp j).pc=4):∃i,i∈q∧(spOf sp j).a=i+1:=by
 induction q with
 |nil=>simp at hj
 |cons i q ih=>
  cases q with
  |nil=>simp at hj
  |cons k q=>
   obtain⟨h1,h2,h3⟩:=h;have hj:j∈k::q:=hj;rcases List.mem_cons.1 hj with rfl|hj
   ·rcases h1 with h1|h1
    ·exact⟨i,by simp,h1.2.1⟩
    ·omega
   ·obtain⟨x,x1,x2⟩:=ih h3 hj
    exact⟨x,List.mem_cons_of_mem _ x1,x2⟩
theorem do_ow {p:PK}{σ:Ar}{sp:List Sp}{n m:Nat}(h:OkK p σ sp n m)(kd i:Int):Ow p n σ (doK p σ sp kd i).2.1:=by
 cases p with
 |tas P=>
  have h:Ta.OkP P σ sp n m:=h;have hl:=h.inv.hl;show Ow (.tas P) n σ (Ta.doP P σ sp kd i).2.1;unfold Ta.doP Ta.stepP
  repeat' (first|exact Ow.refl _ _ _|exact Ow.op hl _ _ _ _ (fun _=>rfl)|split)
 |tic P=>
  have h:Tk.OkP P σ sp n m:=h;obtain⟨S,T,hi,_⟩:=h.inv;have hl:=hi.hl;have hp:P.parts=1:=rfl
  have h2:∀t,inR (.tic P) n (Tk.place P t):=fun t=>by
   obtain⟨x,x0,x1,e⟩:=Tk.place_in hi.p1 t;show P.next≤Tk.place P t∧Tk.place P t≤P.next+1;rw[e];omega
  have h1:inR (.tic P) n P.next:=⟨Int.le_refl _,by omega⟩;show Ow (.tic P) n σ (Tk.doP P σ sp kd i).2.1;unfold Tk.doP Tk.stepP Tk.aloneP
  repeat' (first|exact Ow.refl _ _ _|exact Ow.op hl _ _ _ _ (fun _=>h1)|exact Ow.op hl _ _ _ _ (fun _=>h2 _)|split)
 |par P=>
  have h:Pt.OkP P σ sp n m:=h;obtain⟨S,T,hi,_⟩:=h.inv;have hl:=hi.hl;have hp:=hi.p1
  have h2:∀t,inR (.par P) n (Pt.place P t):=fun t=>by
   obtain⟨x,x0,x1,e⟩:=Pt.place_in hi.p1 t;show P.next≤Pt.place P t∧Pt.place P t≤P.next+P.parts;rw[e];omega
  have h1:inR (.par P) n P.next:=⟨Int.le_refl _,by omega⟩;show Ow (.par P) n σ (Pt.doP P σ sp kd i).2.1;unfold Pt.doP Pt.stepP Pt.aloneP
  repeat' (first|exact Ow.refl _ _ _|exact Ow.op hl _ _ _ _ (fun _=>h1)|exact Ow.op hl _ _ _ _ (fun _=>h2 _)|split)
 |mcs P=>
  have h:Mc.OkP P σ sp n m:=h;obtain⟨q,hi⟩:=h.inv;have hl:=hi.hl;have hlen:=h.len;have h0:inR (.mcs P) n P.tail:=⟨Int.le_refl _,by omega⟩;have hn:∀x:Int,1≤x→x≤n→inR (.mcs P) n (Mc.nx P x):=fun x x0 x1=>by show P.tail≤Mc.nx P x∧Mc.nx P x≤P.tail+2*n;unfold Mc.nx;omega
  have hw:∀x:Int,0≤x→x≤n→inR (.mcs P) n (Mc.wt P x):=fun x x0 x1=>by show P.tail≤Mc.wt P x∧Mc.wt P x≤P.tail+2*n;unfold Mc.wt;omega
  have hr:(spOf sp i).pc≠0→0≤i∧i<sp.length:=fun e=>spOf_range e;have ha:=hi.ar i;show Ow (.mcs P) n σ (Mc.doP P σ sp kd i).2.1;unfold Mc.doP;by_cases k0:kd=0
  ·rw[if_pos k0]
   rcases mcpcs hi i with e|e|e|e|e|e|e|e|e|e|e
   ·rw[Mc.step_no (.inl e)];exact Ow.refl _ _ _
   ·have:=hr (by omega);rw[Mc.step_1 e];exact Ow.op hl _ _ _ _ (fun _=>hn _ (by omega) (by omega))
   ·have:=hr (by omega);rw[Mc.step_2 e];exact Ow.op hl _ _ _ _ (fun _=>hw _ (by omega) (by omega))
   ·rw[Mc.step_3 e];exact Ow.op hl _ _ _ _ (fun _=>h0)
   ·have hq:i∈q:=(hi.mem i).2 (.inl e)
    have ht:i∈q.tail:=by
     cases q with
     |nil=>simp at hq
     |cons u l=>
      rcases List.mem_cons.1 hq with rfl|hq
      ·exact absurd e (hi.hd i rfl).1
      ·exact hq
    obtain⟨u,u1,u2⟩:=chain_pred hi.ch ht e;have:=hi.range u u1;rw[Mc.step_4 e];exact Ow.op hl _ _ _ _ (fun _=>hn _ (by omega) (by omega))
   ·rw[Mc.step_5 e];exact Ow.op hl _ _ _ _ (fun h=>by cases h)
   ·rw[Mc.step_no (.inr e)];exact Ow.refl _ _ _
   ·rw[Mc.step_look (.inl e)];exact Ow.op hl _ _ _ _ (fun h=>by cases h)
   ·rw[Mc.step_12 e];exact Ow.op hl _ _ _ _ (fun _=>h0)
   ·rw[Mc.step_look (.inr e)];exact Ow.op hl _ _ _ _ (fun h=>by cases h)
   ·rw[Mc.step_14 e];exact Ow.op hl _ _ _ _ (fun _=>hw _ (by omega) (by omega))
  ·rw[if_neg k0]
   unfold Mc.aloneP
   repeat' (first|exact Ow.refl _ _ _|exact Ow.op hl _ _ _ _ (fun h=>by cases h)|split)
 |clh P=>
  have h:Cl.OkP P σ sp n m:=h;obtain⟨z,q,hi⟩:=h.inv;have hl:=hi.hl;have hlen:=h.len;have hb:∀x:Int,0≤x→x≤(n:Int)+1→inR (.clh P) n (Cl.box P x):=fun x x0 x1=>by show P.tail≤Cl.box P x∧Cl.box P x≤P.tail+n+1;unfold Cl.box;omega
  have ha:(spOf sp i).pc≠0→1≤(spOf sp i).a∧(spOf sp i).a≤sp.length+1:=fun e=>by
   have:=spOf_range (sp:=sp) (i:=i) e;exact hi.ar i this.1 this.2
  show Ow (.clh P) n σ (Cl.doP P σ sp kd i).2.1;unfold Cl.doP;by_cases k0:kd=0
  ·rw[if_pos k0]
   rcases clpcs hi i with e|e|e|e|e|e
   ·rw[Cl.step_no (.inl e)];exact Ow.refl _ _ _
   ·have:=ha (by omega);rw[Cl.step_1 e];exact Ow.op hl _ _ _ _ (fun _=>hb _ (by omega) (by omega))
   ·rw[Cl.step_2 e];exact Ow.op hl _ _ _ _ (fun _=>show P.tail≤P.tail∧P.tail≤P.tail+n+1 by omega)
   ·rw[Cl.step_3 e];exact Ow.op hl _ _ _ _ (fun h=>by cases h)
   ·rw[Cl.step_no (.inr e)];exact Ow.refl _ _ _
   ·have:=ha (by omega);rw[Cl.step_11 e];exact Ow.op hl _ _ _ _ (fun _=>hb _ (by omega) (by omega))
  ·rw[if_neg k0]
   unfold Cl.aloneP
   repeat' (first|exact Ow.refl _ _ _|exact Ow.op hl _ _ _ _ (fun h=>by cases h)|split)
end Go.Proofs.YtfmiioddhpkdkaaGreat.Fl
namespace Go.Proofs.YtfmiioddhpkdkaaGreat.Fl
open Go.RowKit Go.Proofs.YtfmiioddhpkdkaaGreat.Ara Go.Proofs.YtfmiioddhpkdkaaGreat.Lok
theorem PK.At.arena {p:PK}{S:List Nat}{W W':World}{gl ga ha hs:Nat}{σ σ':Ar}{sp:List Sp}(k:p.At W gl ga ha hs σ sp)(hm:Mod S W W')(h1:gl∉S)(h4:hs∉S)(ha':ArAt W' ga ha σ'):p.At W' gl ga ha hs σ' sp:=by
 cases p with
 |tas P=>obtain⟨k1,k2,k3,⟨c,k4⟩,k5⟩:=k;exact⟨ha',k2.mod hm h4,k3,⟨c,hm.blk k4 h1⟩,k5⟩
 |tic P=>obtain⟨k1,k2,k3,⟨c,k4⟩,k5⟩:=k;exact⟨ha',k2.mod hm h4,k3,⟨c,hm.blk k4 h1⟩,k5⟩
 |par P=>obtain⟨k1,k2,k3,⟨c,k4⟩,k5⟩:=k;exact⟨ha',k2.mod hm h4,k3,⟨c,hm.blk k4 h1⟩,k5⟩
 |mcs P=>obtain⟨k1,k2,k3,⟨c,k4⟩,k5⟩:=k;exact⟨ha',k2.mod hm h4,k3,⟨c,hm.blk k4 h1⟩,k5⟩
 |clh P=>obtain⟨k1,k2,k3,⟨c,k4⟩,k5⟩:=k;exact⟨ha',k2.mod hm h4,k3,⟨c,hm.blk k4 h1⟩,k5⟩
theorem FLAt.arena {S:List Nat}{W W':World}{gf gl ga ha hs:Nat}{p:PK}{σ σ':Ar}{sp:List Sp}(k:FLAt W gf gl ga ha hs p σ sp)(hm:Mod S W W')(h0:gf∉S)(h1:gl∉S)(h4:hs∉S)(ha':ArAt W' ga ha σ'):FLAt W' gf gl ga ha hs p σ' sp:=
 ⟨FlB.mod k.fb hm h0,k.at_.arena hm h1 h4 ha',k.n1,k.n2,k.n3⟩
theorem inR_new {kind par:Int}{n a:Nat}(hM:mayK kind n par){q:Int}(h:inR (pkK kind par a) n q):(a:Int)≤q∧q<(a:Int)+sizeK kind n par:=by
 obtain⟨⟨k1,k5⟩,⟨n1,n2⟩,ha1,ha3⟩:=hM;rcases(show kind=1∨kind=2∨kind=3∨kind=4∨kind=5 by omega)with rfl|rfl|rfl|rfl|rfl
 ·have h:q=(a:Int):=h
  have hz:sizeK 1 n par=1:=rfl;omega
 ·have h:(a:Int)≤q∧q≤(a:Int)+1:=h
  have hz:sizeK 2 n par=2:=rfl;omega
 ·have h:(a:Int)≤q∧q≤(a:Int)+par:=h
  have hz:sizeK 3 n par=1+par.toNat:=rfl;have:=ha3 rfl;omega
 ·have h:(a:Int)≤q∧q≤(a:Int)+2*n:=h
  have hz:sizeK 4 n par=1+2*n:=rfl;omega
 ·have h:(a:Int)≤q∧q≤(a:Int)+n+1:=h
  have hz:sizeK 5 n par=n+2:=rfl;omega
end Go.Proofs.YtfmiioddhpkdkaaGreat.Fl
namespace Go.Proofs.YtfmiioddhpkdkaaGreat.Ga
open Go.RowKit Go.Proofs.YtfmiioddhpkdkaaGreat.Ara Go.Proofs.YtfmiioddhpkdkaaGreat.Lok
def gst (s:Sp):Int:=if s.pc=0 then 0 else if s.pc<10 then 1 else if s.pc=10 then 2 else 3
end Go.Proofs.YtfmiioddhpkdkaaGreat.Ga
namespace Go.Proofs.YtfmiioddhpkdkaaGreat.Ga
open Go.RowKit Go.Proofs.YtfmiioddhpkdkaaGreat.Ara Go.Proofs.YtfmiioddhpkdkaaGreat.Lok Go.Proofs.YtfmiioddhpkdkaaGreat.Fl
def St (s:Sp)(b:Bool)(s':Sp):Prop:=(gst s=1→gst s'=if b=true then 2 else 1)∧(gst s=3→gst s'=if b=true then 0 else 3)
theorem gst_1 {s:Sp}(h:s.pc≠0∧s.pc<10):gst s=1:=by unfold gst;rw[if_neg h.1,if_pos h.2]
theorem gst_2 {s:Sp}(h:s.pc=10):gst s=2:=by unfold gst;rw[if_neg (by omega),if_neg (by omega),if_pos h]
theorem gst_3 {s:Sp}(h:10<s.pc):gst s=3:=by unfold gst;rw[if_neg (by omega),if_neg (by omega),if_neg (by omega)]
theorem gst_0 {s:Sp}(h:s.pc=0):gst s=0:=by unfold gst;rw[if_pos h]
theorem St.no {s s':Sp}(h:gst s'=gst s):St s false s':=⟨fun e=>by rw[h,e];rfl,fun e=>by rw[h,e];rfl⟩
theorem St.c0 {s s':Sp}(h:s.pc≠0∧s.pc<10)(h':s'.pc≠0∧s'.pc<10):St s false s':= .no (by rw[gst_1 h,gst_1 h'])
theorem St.c1 {s s':Sp}(h:s.pc≠0∧s.pc<10)(h':s'.pc=10):St s true s':=⟨fun _=>gst_2 h',fun e=>by rw[gst_1 h]at e;omega⟩
theorem St.g0 {s s':Sp}(h:10<s.pc)(h':10<s'.pc):St s false s':= .no (by rw[gst_3 h,gst_3 h'])
theorem St.g1 {s s':Sp}(h:10<s.pc)(h':s'.pc=0):St s true s':=⟨fun e=>by rw[gst_3 h]at e;omega,fun _=>gst_0 h'⟩
def StepW (r:Bool×Ar×List Sp)(sp:List Sp)(k:Nat)(s:Sp):Prop:=∃s',r.2.2=sp.set k s'∧St s r.1 s'
theorem same_w {sp:List Sp}{k:Nat}(hk:k<sp.length)(σ:Ar):StepW (false,σ,sp) sp k sp[k]:=⟨sp[k],by rw[List.set_getElem_self],.no rfl⟩
section
variable(σ:Ar)(sp:List Sp)(k:Nat)(hk:k<sp.length)
include hk
theorem sw_ta (P:Ta.Par):StepW (Ta.stepP P σ sp k) sp k sp[k]:=by
 unfold Ta.stepP;rw[spOf_in hk,Int.toNat_natCast];by_cases h1:sp[k].pc=1
 ·rw[if_pos h1]
  cases hb:Ta.tryB P σ with
  |true=>exact⟨_,rfl,St.c1 (by omega) rfl⟩
  |false=>exact⟨_,rfl,St.c0 (by omega) (by simp)⟩
 rw[if_neg h1];by_cases h2:sp[k].pc=2
 ·rw[if_pos h2]
  exact⟨_,rfl,St.c0 (by omega) (by simp only;split<;>omega)⟩
 rw[if_neg h2];by_cases h3:sp[k].pc=11
 ·rw[if_pos h3]
  exact⟨_,rfl,St.g1 (by omega) rfl⟩
 rw[if_neg h3];exact same_w hk σ
theorem sw_tk (P:Tk.Par):StepW (Tk.stepP P σ sp k) sp k sp[k]:=by
 unfold Tk.stepP;rw[spOf_in hk,Int.toNat_natCast];by_cases h1:sp[k].pc=1
 ·rw[if_pos h1]
  exact⟨_,rfl,St.c0 (by omega) (by simp)⟩
 rw[if_neg h1];by_cases h2:sp[k].pc=2
 ·rw[if_pos h2]
  by_cases hc:σ.get (Tk.place P sp[k].a)=sp[k].a
  ·exact⟨_,if_pos hc,by rw[show(σ.get (Tk.place P sp[k].a)==sp[k].a)=true from by simpa using hc];exact St.c1 (by omega) rfl⟩
  ·exact⟨sp[k],by show(if _ then _ else _)=_;rw[if_neg hc,List.set_getElem_self],by rw[show(σ.get (Tk.place P sp[k].a)==sp[k].a)=false from by simpa using hc];exact .no rfl⟩
 rw[if_neg h2];by_cases h3:sp[k].pc=11
 ·rw[if_pos h3]
  exact⟨_,rfl,St.g1 (by omega) rfl⟩
 rw[if_neg h3];exact same_w hk σ
theorem sw_pt (P:Pt.Par):StepW (Pt.stepP P σ sp k) sp k sp[k]:=by
 unfold Pt.stepP;rw[spOf_in hk,Int.toNat_natCast];by_cases h1:sp[k].pc=1
 ·rw[if_pos h1]
  exact⟨_,rfl,St.c0 (by omega) (by simp)⟩
 rw[if_neg h1];by_cases h2:sp[k].pc=2
 ·rw[if_pos h2]
  by_cases hc:σ.get (Pt.place P sp[k].a)=sp[k].a+1
  ·exact⟨_,if_pos hc,by rw[show(σ.get (Pt.place P sp[k].a)==sp[k].a+1)=true from by simpa using hc];exact St.c1 (by omega) rfl⟩
  ·exact⟨sp[k],by show(if _ then _ else _)=_;rw[if_neg hc,List.set_getElem_self],by rw[show(σ.get (Pt.place P sp[k].a)==sp[k].a+1)=false from by simpa using hc];exact .no rfl⟩
 rw[if_neg h2];by_cases h3:sp[k].pc=11
 ·rw[if_pos h3]
  exact⟨_,rfl,St.g1 (by omega) rfl⟩
 rw[if_neg h3];exact same_w hk σ
theorem sw_cl (P:Cl.Par):StepW (Cl.stepP P σ sp k) sp k sp[k]:=by
 unfold Cl.stepP;rw[spOf_in hk,Int.toNat_natCast];by_cases h1:sp[k].pc=1
 ·rw[if_pos h1]
  exact⟨_,rfl,St.c0 (by omega) (by simp)⟩
 rw[if_neg h1];by_cases h2:sp[k].pc=2
 ·rw[if_pos h2]
  exact⟨_,rfl,St.c0 (by omega) (by simp)⟩
 rw[if_neg h2];by_cases h2:sp[k].pc=3
 ·rw[if_pos h2]
  by_cases hc:σ.get (Cl.box P sp[k].b)=0
  ·exact⟨_,if_pos hc,by rw[show(σ.get (Cl.box P sp[k].b)==0)=true from by simpa using hc];exact St.c1 (by omega) rfl⟩
  ·exact⟨sp[k],by show(if _ then _ else _)=_;rw[if_neg hc,List.set_getElem_self],by rw[show(σ.get (Cl.box P sp[k].b)==0)=false from by simpa using hc];exact .no rfl⟩
 rw[if_neg h2];by_cases h3:sp[k].pc=11
 ·rw[if_pos h3]
  exact⟨_,rfl,St.g1 (by omega) rfl⟩
 rw[if_neg h3];exact same_w hk σ
theorem sw_mc (P:Mc.Par):StepW (Mc.stepP P σ sp k) sp k sp[k]:=by
 unfold Mc.stepP;rw[spOf_in hk,Int.toNat_natCast];by_cases h1:sp[k].pc=1
 ·rw[if_pos h1]
  exact⟨_,rfl,St.c0 (by omega) (by simp)⟩
 rw[if_neg h1];by_cases h2:sp[k].pc=2
 ·rw[if_pos h2]
  exact⟨_,rfl,St.c0 (by omega) (by simp)⟩
 rw[if_neg h2];by_cases h3:sp[k].pc=3
 ·rw[if_pos h3]
  by_cases hc:σ.get P.tail=0
  ·exact⟨_,rfl,by rw[show(σ.get P.tail==0)=true from by simpa using hc];exact St.c1 (by omega) (if_pos hc)⟩
  ·exact⟨_,rfl,by rw[show(σ.get P.tail==0)=false from by simpa using hc];exact St.c0 (by omega) (by simp only[if_neg hc];omega)⟩
 rw[if_neg h3];by_cases h4:sp[k].pc=4
 ·rw[if_pos h4]
  exact⟨_,rfl,St.c0 (by omega) (by simp)⟩
 rw[if_neg h4];by_cases h5:sp[k].pc=5
 ·rw[if_pos h5]
  by_cases hc:σ.get (Mc.wt P ((k:Int)+1))=0
  ·exact⟨_,rfl,by rw[show(σ.get (Mc.wt P ((k:Int)+1))==0)=true from by simpa using hc];exact St.c1 (by omega) (if_pos hc)⟩
  ·exact⟨_,rfl,by rw[show(σ.get (Mc.wt P ((k:Int)+1))==0)=false from by simpa using hc];exact St.c0 (by omega) (by simp only[if_neg hc];omega)⟩
 rw[if_neg h5];by_cases h6:sp[k].pc=11
 ·rw[if_pos h6]
  exact⟨_,rfl,St.g0 (by omega) (by simp only;split<;>omega)⟩
 rw[if_neg h6];by_cases h7:sp[k].pc=12
 ·rw[if_pos h7]
  cases hc:(σ.has P.tail&&(σ.get P.tail==(k:Int)+1))with
  |true=>exact⟨_,rfl,St.g1 (by omega) (by simp)⟩
  |false=>exact⟨_,rfl,St.g0 (by omega) (by simp)⟩
 rw[if_neg h7];by_cases h8:sp[k].pc=13
 ·rw[if_pos h8]
  exact⟨_,rfl,St.g0 (by omega) (by simp only;split<;>omega)⟩
 rw[if_neg h8];by_cases h9:sp[k].pc=14
 ·rw[if_pos h9]
  exact⟨_,rfl,St.g1 (by omega) rfl⟩
 rw[if_neg h9];exact same_w hk σ
theorem sw_k (p:PK):StepW (doK p σ sp 0 k) sp k sp[k]:=by
 cases p with
 |tas P=>exact sw_ta σ sp k hk P
 |tic P=>exact sw_tk σ sp k hk P
 |par P=>exact sw_pt σ sp k hk P
 |mcs P=>exact sw_mc σ sp k hk P
 |clh P=>exact sw_cl σ sp k hk P
end
end Go.Proofs.YtfmiioddhpkdkaaGreat.Ga
namespace Go.Proofs.YtfmiioddhpkdkaaGreat.Fl
open Go.RowKit Go.Proofs.YtfmiioddhpkdkaaGreat.Ara Go.Proofs.YtfmiioddhpkdkaaGreat.Lok
theorem do_set (p:PK)(σ:Ar)(sp:List Sp)(k:Nat)(hk:k<sp.length):∃s',(doK p σ sp 0 k).2.2=sp.set k s':=by
 cases p with
 |tas P=>
  show∃s',(Ta.stepP P σ sp k).2.2=sp.set k s';unfold Ta.stepP;rw[Int.toNat_natCast]
  repeat' (first|exact⟨_,rfl⟩|exact⟨sp[k],(List.set_getElem_self _).symm⟩|split)
 |tic P=>
  show∃s',(Tk.stepP P σ sp k).2.2=sp.set k s';unfold Tk.stepP;rw[Int.toNat_natCast]
  repeat' (first|exact⟨_,rfl⟩|exact⟨sp[k],(List.set_getElem_self _).symm⟩|split)
 |par P=>
  show∃s',(Pt.stepP P σ sp k).2.2=sp.set k s';unfold Pt.stepP;rw[Int.toNat_natCast]
  repeat' (first|exact⟨_,rfl⟩|exact⟨sp[k],(List.set_getElem_self _).symm⟩|split)
 |mcs P=>
  show∃s',(Mc.stepP P σ sp k).2.2=sp.set k s';unfold Mc.stepP;rw[Int.toNat_natCast]
  repeat' (first|exact⟨_,rfl⟩|exact⟨sp[k],(List.set_getElem_self _).symm⟩|split)
 |clh P=>
  show∃s',(Cl.stepP P σ sp k).2.2=sp.set k s';unfold Cl.stepP;rw[Int.toNat_natCast]
  repeat' (first|exact⟨_,rfl⟩|exact⟨sp[k],(List.set_getElem_self _).symm⟩|split)
theorem do_rest (p:PK)(σ:Ar)(sp:List Sp)(i:Int)(h:(spOf sp i).pc=0∨(spOf sp i).pc=10):doK p σ sp 0 i=(false,σ,sp):=by
 cases p with
 |tas P=>show Ta.stepP P σ sp i=_;unfold Ta.stepP;rw[if_neg (by omega),if_neg (by omega),if_neg (by omega)]
 |tic P=>exact Tk.step_no (by omega) (by omega) (by omega)
 |par P=>exact Pt.step_no (by omega) (by omega) (by omega)
 |mcs P=>exact Mc.step_no h
 |clh P=>exact Cl.step_no h
theorem do_other (p:PK)(σ:Ar)(sp:List Sp)(kd i j:Int)(hj:j≠i):spOf (doK p σ sp kd i).2.2 j=spOf sp j:=by
 have h0:spOf (doK p σ sp 0 i).2.2 j=spOf sp j:=by
  by_cases hr:0≤i∧i<sp.length
  ·obtain⟨k,rfl⟩:=Int.eq_ofNat_of_zero_le hr.1
   obtain⟨s',e⟩:=do_set p σ sp k (by omega);have hs:=spOf_set hr.1 hr.2 s' j;rw[Int.toNat_natCast]at hs;rw[e,hs,if_neg hj]
  ·rw[do_rest p σ sp i (.inl (by rw[spOf_out (by omega)];rfl))]
 by_cases hk:kd<0∨3<kd
 ·rw[do_else p σ sp kd i hk]
 rcases(show kd=0∨kd=1∨kd=2∨kd=3 by omega)with rfl|rfl|rfl|rfl
 ·exact h0
 ·have ht:spOf (turnS sp i 0 1) j=spOf sp j:=by rw[spOf_turnS,if_neg (fun h=>hj h.2)]
  cases p with
  |tas P=>
   show spOf (Ta.askS sp i) j=_;unfold Ta.askS;cases hb:turnB sp i 0 with
   |false=>rw[if_neg (by decide)]
   |true=>
    obtain⟨⟨i0,i1⟩,_⟩:=turn_true hb;rw[if_pos rfl,spOf_set i0 i1,if_neg hj]
  |_=>exact ht
 ·have ht:spOf (turnS sp i 10 11) j=spOf sp j:=by rw[spOf_turnS,if_neg (fun h=>hj h.2)]
  cases p<;>exact ht
 ·cases p<;>rfl
theorem pc_set {sp:List Sp}{i:Int}(i0:0≤i)(i1:i<sp.length)(s':Sp):(spOf (sp.set i.toNat s') i).pc=s'.pc:=by rw[spOf_set i0 i1,if_pos rfl]
def Nxt (p:PK)(q:List Int)(pc pc':Int)(b:Bool)(first:Prop)(slow:Prop):Prop:=
 (pc=0→pc'=0∧b=false)∧(pc=10→pc'=10∧b=false)∧(0<pc→pc<dr p→pc'=pc+1∧b=false)∧
 (0<pc→pc=dr p→(q=[]∧pc'=10∧b=true∧dr p=3)∨(dr p<pc'∧pc'<10∧b=false))∧
 (dr p<pc→pc<10→(first→pc'=10∧b=true)∧(¬first→b=false∧((pc'=pc∧¬(dr p=3∧pc=4))∨(dr p=3∧pc=4∧pc'=5))))∧
 (10<pc→(b=true∧pc'=0)∨(b=false∧10<pc'∧dr p=3∧((pc=11∧pc'=12)∨(pc=11∧pc'=14)∨(pc=12∧pc'=13)∨(pc=13∧pc'=14)∨(pc=13∧pc'=13∧slow))))
theorem nxt_0 {p:PK}{σ:Ar}{sp:List Sp}{q:List Int}{i:Int}{F G:Prop}(hd:doK p σ sp 0 i=(false,σ,sp))(e:(spOf sp i).pc=0):Nxt p q (spOf sp i).pc (spOf (doK p σ sp 0 i).2.2 i).pc (doK p σ sp 0 i).1 F G:=by
 rw[hd,e];unfold Nxt;simp;intro h;cases p<;>simp[dr]at h
theorem nxt_10 {p:PK}{σ:Ar}{sp:List Sp}{q:List Int}{i:Int}{F G:Prop}(hd:doK p σ sp 0 i=(false,σ,sp))(e:(spOf sp i).pc=10):Nxt p q (spOf sp i).pc (spOf (doK p σ sp 0 i).2.2 i).pc (doK p σ sp 0 i).1 F G:=by
 rw[hd,e];unfold Nxt;cases p<;>simp[dr]
theorem QuK.next {p:PK}{σ:Ar}{sp:List Sp}{q:List Int}(h:QuK p σ sp q)(i:Int):Nxt p q (spOf sp i).pc (spOf (doK p σ sp 0 i).2.2 i).pc (doK p σ sp 0 i).1 (q.head? =some i) (∃j t,q=i::j::t∧(spOf sp j).pc=4):=by
 cases p with
 |tas P=>exact absurd h id
 |tic P=>
  have h:Tkq P σ sp q:=h;rcases h.pcs i with e|e|e|e|e
  ·exact nxt_0 (do_rest _ σ sp i (.inl e)) e
  ·obtain⟨i0,i1⟩:=spOf_range (sp:=sp) (i:=i) (by omega)
   have hd:doK (.tic P) σ sp 0 i=_:=Tk.step_1 e;rw[hd,pc_set i0 i1,e];unfold Nxt;simp[dr]
  ·obtain⟨i0,i1⟩:=spOf_range (sp:=sp) (i:=i) (by omega)
   have hd:doK (.tic P) σ sp 0 i=_:=Tk.step_2 e;by_cases hh:q.head? =some i
   ·have hs:=h.serves hh
    rw[hd,if_pos hs,pc_set i0 i1,e,show(σ.get (Tk.place P (spOf sp i).a)==(spOf sp i).a)=true from by simpa using hs];unfold Nxt;simp[dr,hh]
   ·have hs:¬σ.get (Tk.place P (spOf sp i).a)=(spOf sp i).a:=fun hs=>hh (h.first (.inl e) hs)
    rw[hd,if_neg hs,e,show(σ.get (Tk.place P (spOf sp i).a)==(spOf sp i).a)=false from by simpa using hs];unfold Nxt;simp[dr,hh]
  ·exact nxt_10 (do_rest _ σ sp i (.inr e)) e
  ·obtain⟨i0,i1⟩:=spOf_range (sp:=sp) (i:=i) (by omega)
   have hd:doK (.tic P) σ sp 0 i=_:=Tk.step_11 e;rw[hd,pc_set i0 i1,e];unfold Nxt;simp[dr]
 |par P=>
  have h:Ptq P σ sp q:=h;rcases h.pcs i with e|e|e|e|e
  ·exact nxt_0 (do_rest _ σ sp i (.inl e)) e
  ·obtain⟨i0,i1⟩:=spOf_range (sp:=sp) (i:=i) (by omega)
   have hd:doK (.par P) σ sp 0 i=_:=Pt.step_1 e;rw[hd,pc_set i0 i1,e];unfold Nxt;simp[dr]
  ·obtain⟨i0,i1⟩:=spOf_range (sp:=sp) (i:=i) (by omega)
   have hd:doK (.par P) σ sp 0 i=_:=Pt.step_2 e;by_cases hh:q.head? =some i
   ·have hs:=h.serves hh
    rw[hd,if_pos hs,pc_set i0 i1,e,show(σ.get (Pt.place P (spOf sp i).a)==(spOf sp i).a+1)=true from by simpa using hs];unfold Nxt;simp[dr,hh]
   ·have hs:¬σ.get (Pt.place P (spOf sp i).a)=(spOf sp i).a+1:=fun hs=>hh (h.first (.inl e) hs)
    rw[hd,if_neg hs,e,show(σ.get (Pt.place P (spOf sp i).a)==(spOf sp i).a+1)=false from by simpa using hs];unfold Nxt;simp[dr,hh]
  ·exact nxt_10 (do_rest _ σ sp i (.inr e)) e
  ·obtain⟨i0,i1⟩:=spOf_range (sp:=sp) (i:=i) (by omega)
   have hd:doK (.par P) σ sp 0 i=_:=Pt.step_11 e;rw[hd,pc_set i0 i1,e];unfold Nxt;simp[dr]
 |mcs P=>
  have h:Mc.Inv P σ sp q:=h;rcases mcpcs h i with e|e|e|e|e|e|e|e|e|e|e
  ·exact nxt_0 (do_rest _ σ sp i (.inl e)) e
  ·obtain⟨i0,i1⟩:=spOf_range (sp:=sp) (i:=i) (by omega)
   have hd:doK (.mcs P) σ sp 0 i=_:=Mc.step_1 e;rw[hd,pc_set i0 i1,e];unfold Nxt;simp[dr]
  ·obtain⟨i0,i1⟩:=spOf_range (sp:=sp) (i:=i) (by omega)
   have hd:doK (.mcs P) σ sp 0 i=_:=Mc.step_2 e;rw[hd,pc_set i0 i1,e];unfold Nxt;simp[dr]
  ·obtain⟨i0,i1⟩:=spOf_range (sp:=sp) (i:=i) (by omega)
   have hd:doK (.mcs P) σ sp 0 i=_:=Mc.step_3 e;rw[hd,pc_set i0 i1,e];unfold Nxt;by_cases hq:q=[]
   ·have hz:σ.get P.tail=0:=by rw[h.gT,hq];rfl
    simp[dr,hz,hq]
   ·obtain⟨j,j1,j2⟩:=Mc.tailOf_mem hq
    have hj:=h.range j j1;have hz:¬σ.get P.tail=0:=by rw[h.gT,j2];omega
    simp[dr,hz,hq]
  ·have hn:¬q.head? =some i:=fun hh=>(h.hd i hh).1 e
   obtain⟨i0,i1⟩:=spOf_range (sp:=sp) (i:=i) (by omega);have hd:doK (.mcs P) σ sp 0 i=_:=Mc.step_4 e;rw[hd,pc_set i0 i1,e];unfold Nxt;simp[dr,hn]
  ·obtain⟨i0,i1⟩:=spOf_range (sp:=sp) (i:=i) (by omega)
   have hd:doK (.mcs P) σ sp 0 i=_:=Mc.step_5 e;rw[hd,pc_set i0 i1,e];unfold Nxt;by_cases hh:q.head? =some i
   ·have hz:=(h.hd i hh).2 e
    simp[dr,hz,hh]
   ·have hz:¬σ.get (Mc.wt P (i+1))=0:=fun hz=>hh (Mc.inv_5 h e hz).2
    simp[dr,hz,hh]
  ·exact nxt_10 (do_rest _ σ sp i (.inr e)) e
  ·obtain⟨i0,i1⟩:=spOf_range (sp:=sp) (i:=i) (by omega)
   have hd:doK (.mcs P) σ sp 0 i=_:=Mc.step_look (.inl e);rw[hd,pc_set i0 i1,e];unfold Nxt;by_cases hz:σ.get (Mc.nx P (i+1))=0<;>simp[dr,hz]
  ·obtain⟨i0,i1⟩:=spOf_range (sp:=sp) (i:=i) (by omega)
   have hd:doK (.mcs P) σ sp 0 i=_:=Mc.step_12 e;rw[hd,pc_set i0 i1,e];unfold Nxt;cases hc:(σ.has P.tail&&(σ.get P.tail==i+1))<;>simp[dr,hc]
  ·obtain⟨i0,i1⟩:=spOf_range (sp:=sp) (i:=i) (by omega)
   have hd:doK (.mcs P) σ sp 0 i=_:=Mc.step_look (.inr e);rw[hd,pc_set i0 i1,e];unfold Nxt;by_cases hz:σ.get (Mc.nx P (i+1))=0
   ·have hs:∃j t,q=i::j::t∧(spOf sp j).pc=4:=by
     rcases h.linked i (by unfold Mc.outs;omega)with⟨j,t,h1,h2|h2⟩|⟨h1,_⟩
     ·exact⟨j,t,h1,h2.1⟩
     ·have hj:=h.range j (by rw[h1];simp)
      rw[hz]at h2;omega
     ·exact absurd h1 (h.p13 i e)
    obtain⟨j,t,j1,j2⟩:=hs;simp[dr,hz];exact⟨j,⟨t,j1⟩,j2⟩
   ·simp[dr,hz]
  ·obtain⟨i0,i1⟩:=spOf_range (sp:=sp) (i:=i) (by omega)
   have hd:doK (.mcs P) σ sp 0 i=_:=Mc.step_14 e;rw[hd,pc_set i0 i1,e];unfold Nxt;simp[dr]
 |clh P=>
  obtain⟨z,h⟩:=h;rcases clpcs h i with e|e|e|e|e|e
  ·exact nxt_0 (do_rest _ σ sp i (.inl e)) e
  ·obtain⟨i0,i1⟩:=spOf_range (sp:=sp) (i:=i) (by omega)
   have hd:doK (.clh P) σ sp 0 i=_:=Cl.step_1 e;rw[hd,pc_set i0 i1,e];unfold Nxt;simp[dr]
  ·obtain⟨i0,i1⟩:=spOf_range (sp:=sp) (i:=i) (by omega)
   have hd:doK (.clh P) σ sp 0 i=_:=Cl.step_2 e;rw[hd,pc_set i0 i1,e];unfold Nxt;simp[dr]
  ·obtain⟨i0,i1⟩:=spOf_range (sp:=sp) (i:=i) (by omega)
   have hd:doK (.clh P) σ sp 0 i=_:=Cl.step_3 e;by_cases hh:q.head? =some i
   ·have hs:σ.get (Cl.box P (spOf sp i).b)=0:=by
     have hc:=h.ch;cases q with
     |nil=>simp at hh
     |cons a t=>
      obtain rfl:a=i:=by simpa using hh
      rw[hc.1];exact h.gz
    rw[hd,if_pos hs,pc_set i0 i1,e,show(σ.get (Cl.box P (spOf sp i).b)==0)=true from by simpa using hs];unfold Nxt;simp[dr,hh]
   ·have hs:¬σ.get (Cl.box P (spOf sp i).b)=0:=fun hs=>hh (h.head i (.inl e) hs)
    rw[hd,if_neg hs,e,show(σ.get (Cl.box P (spOf sp i).b)==0)=false from by simpa using hs];unfold Nxt;simp[dr,hh]
  ·exact nxt_10 (do_rest _ σ sp i (.inr e)) e
  ·obtain⟨i0,i1⟩:=spOf_range (sp:=sp) (i:=i) (by omega)
   have hd:doK (.clh P) σ sp 0 i=_:=Cl.step_11 e;rw[hd,pc_set i0 i1,e];unfold Nxt;simp[dr]
end Go.Proofs.YtfmiioddhpkdkaaGreat.Fl
namespace Go.Proofs.YtfmiioddhpkdkaaGreat.Fl
open Go.RowKit Go.Proofs.YtfmiioddhpkdkaaGreat.Ara Go.Proofs.YtfmiioddhpkdkaaGreat.Lok Go.Proofs.YtfmiioddhpkdkaaGreat.Ga
section
variable {p:PK}{σ:Ar}{sp:List Sp}{n m:Nat}(h:OkK p σ sp n m)
include h
theorem OkK.pos (i:Int):0≤(spOf sp i).pc:=by
 cases p with
 |tas P=>have:=(Ta.OkP.inv h).pcs i;unfold Ta.holds at this;omega
 |tic P=>obtain⟨S,T,hi,_⟩:=Tk.OkP.inv h;have:=hi.pcs i;unfold Tk.inq at this;omega
 |par P=>obtain⟨S,T,hi,_⟩:=Pt.OkP.inv h;have:=hi.pcs i;unfold Pt.inq at this;omega
 |mcs P=>obtain⟨q,hi⟩:=Mc.OkP.inv h;have:=mcpcs hi i;omega
 |clh P=>obtain⟨z,q,hi⟩:=Cl.OkP.inv h;have:=clpcs hi i;omega
theorem OkK.sole {i j:Int}(hi:10≤(spOf sp i).pc)(hj:10≤(spOf sp j).pc):i=j:=by
 cases p with
 |tas P=>
  have hv:=Ta.OkP.inv h;have h1:=hv.pcs i;have h2:=hv.pcs j;have h3:=hv.hold i (by unfold Ta.holds at*;omega);have h4:=hv.hold j (by unfold Ta.holds at*;omega);omega
 |tic P=>
  obtain⟨S,T,hv,_⟩:=Tk.OkP.inv h;have h1:=hv.pcs i;have h2:=hv.pcs j;unfold Tk.inq at h1 h2;exact hv.inj i j (by unfold Tk.inq;omega) (by unfold Tk.inq;omega) ((hv.hold i (by omega)).trans (hv.hold j (by omega)).symm)
 |par P=>
  obtain⟨S,T,hv,_⟩:=Pt.OkP.inv h;have h1:=hv.pcs i;have h2:=hv.pcs j;unfold Pt.inq at h1 h2;exact hv.inj i j (by unfold Pt.inq;omega) (by unfold Pt.inq;omega) ((hv.hold i (by omega)).trans (hv.hold j (by omega)).symm)
 |mcs P=>
  obtain⟨q,hv⟩:=Mc.OkP.inv h;have h1:=QuK.head (p:= .mcs P) hv hi;have h2:=QuK.head (p:= .mcs P) hv hj;rw[h1]at h2;injection h2
 |clh P=>
  obtain⟨z,q,hv⟩:=Cl.OkP.inv h;have h1:=QuK.head (p:= .clh P) (q:=q) ⟨z,hv⟩ hi;have h2:=QuK.head (p:= .clh P) (q:=q) ⟨z,hv⟩ hj;rw[h1]at h2;injection h2
theorem OkK.step_pc (i:Int):((spOf sp i).pc=0→(spOf (doK p σ sp 0 i).2.2 i).pc=0∧(doK p σ sp 0 i).1=false)∧((spOf sp i).pc=10→(spOf (doK p σ sp 0 i).2.2 i).pc=10∧(doK p σ sp 0 i).1=false)∧
 (0<(spOf sp i).pc→(spOf sp i).pc<10→((doK p σ sp 0 i).1=true∧(spOf (doK p σ sp 0 i).2.2 i).pc=10)∨((doK p σ sp 0 i).1=false∧0<(spOf (doK p σ sp 0 i).2.2 i).pc∧(spOf (doK p σ sp 0 i).2.2 i).pc<10))∧
 (10<(spOf sp i).pc→((doK p σ sp 0 i).1=true∧(spOf (doK p σ sp 0 i).2.2 i).pc=0)∨((doK p σ sp 0 i).1=false∧10<(spOf (doK p σ sp 0 i).2.2 i).pc)):=by
 have hrest:(spOf sp i).pc=0∨(spOf sp i).pc=10→(spOf (doK p σ sp 0 i).2.2 i).pc=(spOf sp i).pc∧(doK p σ sp 0 i).1=false:=fun e=>by rw[do_rest p σ sp i e];exact⟨rfl,rfl⟩
 have hp':=OkK.pos (h.act 0 i) i;refine⟨fun e=>⟨(hrest (.inl e)).1.trans e,(hrest (.inl e)).2⟩,fun e=>⟨(hrest (.inr e)).1.trans e,(hrest (.inr e)).2⟩,fun e1 e2=> ?_,fun e1=> ?_⟩
 ·obtain⟨i0,i1⟩:=spOf_range (sp:=sp) (i:=i) (by omega)
  obtain⟨k,rfl⟩:=Int.eq_ofNat_of_zero_le i0;have hk:k<sp.length:=by omega
  obtain⟨s',hs',hst,_⟩:=sw_k σ sp k hk p;rw[spOf_in hk]at e1 e2;have hg:=hst (gst_1 ⟨by omega,by omega⟩);have hs2:spOf (doK p σ sp 0 (k:Int)).2.2 (k:Int)=s':=by rw[hs'];have:=spOf_set (sp:=sp) i0 i1 s' k;rw[Int.toNat_natCast]at this;rw[this,if_pos rfl]
  rw[hs2]at hp'⊢;cases hb:(doK p σ sp 0 (k:Int)).1 with
  |true=>
   rw[hb,if_pos rfl]at hg;left;refine⟨rfl,?_⟩;unfold gst at hg
   repeat' split at hg
   all_goals first|assumption|omega
  |false=>
   rw[hb,if_neg (by decide)]at hg;right;refine⟨rfl,?_⟩;unfold gst at hg
   repeat' split at hg
   all_goals omega
 ·obtain⟨i0,i1⟩:=spOf_range (sp:=sp) (i:=i) (by omega)
  obtain⟨k,rfl⟩:=Int.eq_ofNat_of_zero_le i0;have hk:k<sp.length:=by omega
  obtain⟨s',hs',_,hst⟩:=sw_k σ sp k hk p;rw[spOf_in hk]at e1;have hg:=hst (gst_3 e1);have hs2:spOf (doK p σ sp 0 (k:Int)).2.2 (k:Int)=s':=by rw[hs'];have:=spOf_set (sp:=sp) i0 i1 s' k;rw[Int.toNat_natCast]at this;rw[this,if_pos rfl]
  rw[hs2]at hp'⊢;cases hb:(doK p σ sp 0 (k:Int)).1 with
  |true=>
   rw[hb,if_pos rfl]at hg;left;refine⟨rfl,?_⟩;unfold gst at hg
   repeat' split at hg
   all_goals first|assumption|omega
  |false=>
   rw[hb,if_neg (by decide)]at hg;right;refine⟨rfl,?_⟩;unfold gst at hg
   repeat' split at hg
   all_goals omega
end
theorem ask_pc (p:PK)(σ:Ar){sp:List Sp}{i:Int}(i0:0≤i)(i1:i<sp.length)(e:(spOf sp i).pc=0):(spOf (doK p σ sp 1 i).2.2 i).pc=1∧(doK p σ sp 1 i).2.1=σ:=by
 have ht:turnB sp i 0=true:=by
  obtain⟨k,rfl⟩:=Int.eq_ofNat_of_zero_le i0;rw[spOf_in (by omega)]at e;rw[turn_in (by omega),e];rfl
 have hta:(spOf (turnS sp i 0 1) i).pc=1:=by rw[spOf_turnS,if_pos ⟨ht,rfl⟩]
 cases p with
 |tas P=>
  refine⟨?_,rfl⟩;show(spOf (Ta.askS sp i) i).pc=1;unfold Ta.askS;rw[if_pos ht,spOf_set i0 i1,if_pos rfl]
 |tic P=>exact⟨hta,rfl⟩
 |par P=>exact⟨hta,rfl⟩
 |mcs P=>exact⟨hta,rfl⟩
 |clh P=>exact⟨hta,rfl⟩
theorem leave_pc (p:PK)(σ:Ar){sp:List Sp}{i:Int}(e:(spOf sp i).pc=10):(spOf (doK p σ sp 2 i).2.2 i).pc=11∧(doK p σ sp 2 i).2.1=σ:=by
 obtain⟨i0,i1⟩:=spOf_range (sp:=sp) (i:=i) (by omega)
 have ht:turnB sp i 10=true:=by
  obtain⟨k,rfl⟩:=Int.eq_ofNat_of_zero_le i0;rw[spOf_in (by omega)]at e;rw[turn_in (by omega),e];rfl
 have hta:(spOf (turnS sp i 10 11) i).pc=11:=by rw[spOf_turnS,if_pos ⟨ht,rfl⟩]
 cases p<;>exact⟨hta,rfl⟩
theorem alone_sp (p:PK)(σ:Ar)(sp:List Sp)(i:Int):(doK p σ sp 3 i).2.2=sp:=by cases p<;>rfl
end Go.Proofs.YtfmiioddhpkdkaaGreat.Fl
namespace Go.Proofs.YtfmiioddhpkdkaaGreat.Co
open Go.RowKit Go.Proofs.YtfmiioddhpkdkaaGreat.Ara Go.Proofs.YtfmiioddhpkdkaaGreat.Lok Go.Proofs.YtfmiioddhpkdkaaGreat.Fl
structure Pm where
 NN:Nat
 T:Nat
 pg:PK
 pl:Nat→PK
 mt:Nat→Nat
 cw:Nat→Int
 nd:Nat→Nat
 sl:Nat→Nat
 B:Int
structure CS where
 σ:Ar
 g:List Sp
 loc:Nat→List Sp
 S:List Sp
def upd {α:Type}(f:Nat→α)(n:Nat)(v:α):Nat→α:=fun k=>if k=n then v else f k
theorem upd_self {α:Type}(f:Nat→α)(n:Nat)(v:α):upd f n v n=v:=if_pos rfl
theorem upd_other {α:Type}(f:Nat→α){n k:Nat}(v:α)(h:k≠n):upd f n v k=f k:=if_neg h
def passes (c B:Int)(alone:Bool):Bool:=decide (1≤c)&&decide (c≤B)&& !alone
def inC (P:Pm)(x:CS)(t:Nat)(s:Sp):CS:=
 if s.pc=1 then
  ⟨(doK (P.pl (P.nd t)) x.σ (x.loc (P.nd t)) 0 (P.sl t)).2.1,x.g,upd x.loc (P.nd t) (doK (P.pl (P.nd t)) x.σ (x.loc (P.nd t)) 0 (P.sl t)).2.2,if(doK (P.pl (P.nd t)) x.σ (x.loc (P.nd t)) 0 (P.sl t)).1 then x.S.set t {s with pc:=2}else x.S⟩
 else if s.pc=2 then
  (if 0<x.σ.get (P.cw (P.nd t))then⟨x.σ.op 1 (P.cw (P.nd t)) false 0,x.g,x.loc,x.S.set t {s with pc:=10,a:=x.σ.get (P.cw (P.nd t))}⟩
   else⟨x.σ.op 1 (P.cw (P.nd t)) false 0,(doK P.pg x.σ x.g 1 (P.nd t)).2.2,x.loc,x.S.set t {s with pc:=3,a:=x.σ.get (P.cw (P.nd t))}⟩)
 else if s.pc=3 then
  ⟨(doK P.pg x.σ x.g 0 (P.nd t)).2.1,(doK P.pg x.σ x.g 0 (P.nd t)).2.2,x.loc,if(doK P.pg x.σ x.g 0 (P.nd t)).1 then x.S.set t {s with pc:=4}else x.S⟩
 else if s.pc=4 then⟨x.σ.op 2 (P.cw (P.nd t)) true 1,x.g,x.loc,x.S.set t {s with pc:=10,a:=1}⟩
 else x
def outC (P:Pm)(x:CS)(t:Nat)(s:Sp):CS:=
 if s.pc=11 then⟨x.σ.op 1 (P.cw (P.nd t)) false 0,x.g,x.loc,x.S.set t {s with pc:=if P.B<x.σ.get (P.cw (P.nd t))then 14 else 12,a:=x.σ.get (P.cw (P.nd t))}⟩
 else if s.pc=12 then
  ⟨(doK (P.pl (P.nd t)) x.σ (x.loc (P.nd t)) 3 (P.sl t)).2.1,x.g,x.loc,x.S.set t {s with pc:=if passes s.a P.B (doK (P.pl (P.nd t)) x.σ (x.loc (P.nd t)) 3 (P.sl t)).1 then 13 else 14}⟩
 else if s.pc=13 then⟨x.σ.op 2 (P.cw (P.nd t)) true (s.a+1),x.g,upd x.loc (P.nd t) (doK (P.pl (P.nd t)) x.σ (x.loc (P.nd t)) 2 (P.sl t)).2.2,x.S.set t {s with pc:=16}⟩
 else if s.pc=14 then⟨x.σ.op 2 (P.cw (P.nd t)) true 0,(doK P.pg x.σ x.g 2 (P.nd t)).2.2,x.loc,x.S.set t {s with pc:=15}⟩
 else if s.pc=15 then
  (if(doK P.pg x.σ x.g 0 (P.nd t)).1 then⟨(doK P.pg x.σ x.g 0 (P.nd t)).2.1,(doK P.pg x.σ x.g 0 (P.nd t)).2.2,upd x.loc (P.nd t) (doK (P.pl (P.nd t)) x.σ (x.loc (P.nd t)) 2 (P.sl t)).2.2,x.S.set t {s with pc:=16}⟩
   else⟨(doK P.pg x.σ x.g 0 (P.nd t)).2.1,(doK P.pg x.σ x.g 0 (P.nd t)).2.2,x.loc,x.S⟩)
 else if s.pc=16 then
  ⟨(doK (P.pl (P.nd t)) x.σ (x.loc (P.nd t)) 0 (P.sl t)).2.1,x.g,upd x.loc (P.nd t) (doK (P.pl (P.nd t)) x.σ (x.loc (P.nd t)) 0 (P.sl t)).2.2,if(doK (P.pl (P.nd t)) x.σ (x.loc (P.nd t)) 0 (P.sl t)).1 then x.S.set t {s with pc:=0}else x.S⟩
 else x
def stepC (P:Pm)(x:CS)(t:Int):CS:=if(spOf x.S t).pc=0∨(spOf x.S t).pc=10 then x else if(spOf x.S t).pc<10 then inC P x t.toNat (spOf x.S t)else outC P x t.toNat (spOf x.S t)
def stepB (P:Pm)(x:CS)(t:Int):Bool:=decide (¬((spOf x.S t).pc=0∨(spOf x.S t).pc=10))&&(decide ((spOf (stepC P x t).S t).pc=10)||decide ((spOf (stepC P x t).S t).pc=0))
def askC (P:Pm)(x:CS)(t:Int):CS:=if turnB x.S t 0 then⟨x.σ,x.g,upd x.loc (P.nd t.toNat) (doK (P.pl (P.nd t.toNat)) x.σ (x.loc (P.nd t.toNat)) 1 (P.sl t.toNat)).2.2,turnS x.S t 0 1⟩else x
def leaveC (x:CS)(t:Int):CS:=⟨x.σ,x.g,x.loc,turnS x.S t 10 11⟩
structure Dj (P:Pm):Prop where
 gl:∀n,n<P.NN→∀q,inR (P.pl n) (P.mt n) q→¬inR P.pg P.NN q
 ll:∀n k,n<P.NN→k<P.NN→n≠k→∀q,inR (P.pl n) (P.mt n) q→¬inR (P.pl k) (P.mt k) q
 cg:∀n,n<P.NN→¬inR P.pg P.NN (P.cw n)
 cl:∀n k,n<P.NN→k<P.NN→¬inR (P.pl k) (P.mt k) (P.cw n)
 cc:∀n k,n<P.NN→k<P.NN→P.cw n=P.cw k→n=k
 nd:∀t,t<P.T→P.nd t<P.NN∧P.sl t<P.mt (P.nd t)
 inj:∀t u,t<P.T→u<P.T→P.nd t=P.nd u→P.sl t=P.sl u→t=u
 B0:0≤P.B
def relP (pc l:Int):Prop:=(pc=0∧l=0)∨(pc=1∧0<l∧l<10)∨((pc=2∨pc=3∨pc=4∨pc=10∨pc=11∨pc=12∨pc=13∨pc=14∨pc=15)∧l=10)∨(pc=16∧10<l)
abbrev pcT (x:CS)(t:Nat):Int:=(spOf x.S t).pc
abbrev pcL (P:Pm)(x:CS)(t:Nat):Int:=(spOf (x.loc (P.nd t)) (P.sl t)).pc
abbrev pcG (x:CS)(n:Nat):Int:=(spOf x.g n).pc
abbrev cnW (P:Pm)(x:CS)(n:Nat):Int:=x.σ.get (P.cw n)
def nodP (P:Pm)(pc a c γ:Int):Prop:=
 (pc=3→c=0∧0<γ∧γ<10)∧(pc=4→c=0∧γ=10)∧(pc=10∨pc=11∨pc=12∨pc=13∨pc=14→0<c∧γ=10)∧(pc=10→a=c)∧(pc=12∨pc=13→a=c∧c≤P.B)∧(pc=15→c=0∧10<γ)
def busy (pc:Int):Prop:=pc=3∨pc=4∨pc=10∨pc=11∨pc=12∨pc=13∨pc=14∨pc=15
structure CI (P:Pm)(x:CS)(m:Nat):Prop where
 og:OkK P.pg x.σ x.g P.NN m
 ol:∀n,n<P.NN→OkK (P.pl n) x.σ (x.loc n) (P.mt n) m
 len:x.S.length=P.T
 hl:x.σ.t≤x.σ.ws.length
 hc:∀n,n<P.NN→x.σ.has (P.cw n)=true
 rel:∀t,t<P.T→relP (pcT x t) (pcL P x t)
 nod:∀t,t<P.T→nodP P (pcT x t) (spOf x.S t).a (cnW P x (P.nd t)) (pcG x (P.nd t))
 free:∀n,n<P.NN→(∀t,t<P.T→P.nd t=n→¬busy (pcT x t))→(cnW P x n=0∧pcG x n=0)∨(0<cnW P x n∧pcG x n=10)
 cr:∀n,n<P.NN→0≤cnW P x n∧cnW P x n≤P.B+1
 ops:x.σ.ops≤m+1
end Go.Proofs.YtfmiioddhpkdkaaGreat.Co
