/- Merged texts: TkP, TkO, Tk1. -/
import Derived.Test.YtfmiioddhpkdkaaGreatWh10
set_option linter.unusedVariables false
set_option linter.unusedSimpArgs false
namespace Go.Proofs.YtfmiioddhpkdkaaGreat.Tk
open Go.RowKit Go.Proofs.YtfmiioddhpkdkaaGreat.Ara Go.Proofs.YtfmiioddhpkdkaaGreat.Lok
structure Par where
 next:Int
def Par.parts (_:Par):Int:=1
def place (P:Par)(t:Int):Int:=P.next+1+t%P.parts
def stepP (P:Par)(σ:Ar)(sp:List Sp)(i:Int):Bool×Ar×List Sp:=
 if(spOf sp i).pc=1 then(false,σ.op 5 P.next true (σ.get P.next+1),sp.set i.toNat {spOf sp i with pc:=2,a:=σ.get P.next})
 else if(spOf sp i).pc=2 then(σ.get (place P (spOf sp i).a)==(spOf sp i).a,σ.op 1 (place P (spOf sp i).a) false 0,if σ.get (place P (spOf sp i).a)=(spOf sp i).a then sp.set i.toNat {spOf sp i with pc:=10}else sp)
 else if(spOf sp i).pc=11 then(true,σ.op 2 (place P ((spOf sp i).a+1)) true ((spOf sp i).a+1),sp.set i.toNat {spOf sp i with pc:=0})
 else(false,σ,sp)
def aloneP (P:Par)(σ:Ar)(sp:List Sp)(i:Int):Bool×Ar:=
 if(spOf sp i).pc=10 then(σ.get P.next==(spOf sp i).a+1,σ.op 1 P.next false 0)else(false,σ)
def doP (P:Par)(σ:Ar)(sp:List Sp)(kd i:Int):Bool×Ar×List Sp:=
 if kd=0 then stepP P σ sp i else if kd=1 then(turnB sp i 0,σ,turnS sp i 0 1)else if kd=2 then(turnB sp i 10,σ,turnS sp i 10 11)
 else if kd=3 then((aloneP P σ sp i).1,(aloneP P σ sp i).2,sp)else(false,σ,sp)
def inq (s:Sp):Prop:=s.pc=2∨s.pc=10∨s.pc=11
structure Inv (P:Par)(σ:Ar)(sp:List Sp)(S T:Nat):Prop where
 hl:σ.t≤σ.ws.length
 p1:1≤P.parts
 p2:P.parts≤32
 n1:1≤P.next
 n2:P.next+P.parts≤σ.t
 gT:σ.get P.next=T
 le:S≤T
 srv:σ.get (place P S)=S
 low:∀x:Int,0≤x→x<P.parts→σ.get (P.next+1+x)≤S
 pcs:∀i,(spOf sp i).pc=0∨(spOf sp i).pc=1∨inq (spOf sp i)
 tick:∀i,inq (spOf sp i)→(S:Int)≤(spOf sp i).a∧(spOf sp i).a<T
 hold:∀i,(spOf sp i).pc=10∨(spOf sp i).pc=11→(spOf sp i).a=S
 inj:∀i j,inq (spOf sp i)→inq (spOf sp j)→(spOf sp i).a=(spOf sp j).a→i=j
 all:∀t:Int,S≤t→t<T→∃i,inq (spOf sp i)∧(spOf sp i).a=t
 rng:∀i,0≤(spOf sp i).a∧(spOf sp i).a≤T
theorem place_in {P:Par}(h:1≤P.parts)(t:Int):∃x,0≤x∧x<P.parts∧place P t=P.next+1+x:=
 ⟨t%P.parts,Int.emod_nonneg _ (by omega),Int.emod_lt_of_pos _ (by omega),rfl⟩
theorem Inv.has {P:Par}{σ:Ar}{sp:List Sp}{S T:Nat}(h:Inv P σ sp S T)(t:Int):σ.has (place P t)=true:=by
 obtain⟨x,x0,x1,e⟩:=place_in h.p1 t;rw[e];have:=h.n1;have:=h.n2;simp[Ar.has];omega
theorem Inv.hasN {P:Par}{σ:Ar}{sp:List Sp}{S T:Nat}(h:Inv P σ sp S T):σ.has P.next=true:=by
 have:=h.n1;have:=h.n2;have:=h.p1;simp[Ar.has];omega
theorem Inv.read {P:Par}{σ:Ar}{sp:List Sp}{S T:Nat}(h:Inv P σ sp S T)(p v:Int):Inv P (σ.op 1 p false v) sp S T:=by
 refine {h with hl:= ?_,n2:= ?_,gT:= ?_,srv:= ?_,low:= ?_}
 ·rw[op_t,op_len];exact h.hl
 ·rw[op_t];exact h.n2
 ·rw[get_read σ h.hl];exact h.gT
 ·rw[get_read σ h.hl];exact h.srv
 ·intro x h0 h1
  rw[get_read σ h.hl];exact h.low x h0 h1
theorem Inv.idle {P:Par}{σ:Ar}{sp sp':List Sp}{S T:Nat}(h:Inv P σ sp S T)(i:Int)(s':Sp)(hs:∀j,spOf sp' j=if j=i then s' else spOf sp j)(h0:¬inq (spOf sp i))(h1:s'.pc=0∨s'.pc=1)(ha:s'.a=(spOf sp i).a):Inv P σ sp' S T:=by
 have h2:¬inq s':=by unfold inq;omega
 refine {h with pcs:=fun j=> ?_,tick:=fun j hj=> ?_,hold:=fun j hj=> ?_,inj:=fun j k hj hk e=> ?_,all:=fun t t0 t1=> ?_,rng:=fun j=> ?r}
 case r=>
  rw[hs];split
  ·rw[ha];exact h.rng i
  ·exact h.rng j
 ·rw[hs];split
  ·omega
  ·exact h.pcs j
 ·rw[hs]at hj⊢;split at hj
  ·exact absurd hj h2
  ·rename_i e;rw[if_neg e];exact h.tick j hj
 ·rw[hs]at hj⊢;split at hj
  ·omega
  ·rename_i e;rw[if_neg e];exact h.hold j hj
 ·rw[hs]at hj hk e;rw[hs k]at e
  split at hj
  ·exact absurd hj h2
  ·split at hk
   ·exact absurd hk h2
   ·rename_i e1 e2
    rw[if_neg e1,if_neg e2]at e;exact h.inj j k hj hk e
 ·obtain⟨k,k1,k2⟩:=h.all t t0 t1
  refine⟨k,?_⟩;have:k≠i:=fun e=>h0 (e▸k1);rw[hs,if_neg this];exact⟨k1,k2⟩
theorem Inv.keeps {P:Par}{σ:Ar}{sp sp':List Sp}{S T:Nat}(h:Inv P σ sp S T)(i:Int)(s':Sp)(hs:∀j,spOf sp' j=if j=i then s' else spOf sp j)(h0:inq (spOf sp i))(h1:s'.pc=10∨s'.pc=11)(ha:s'.a=(spOf sp i).a)(hS:s'.a=S):Inv P σ sp' S T:=by
 have h2:inq s':=by unfold inq;omega
 have hh:∀j,inq (spOf sp' j)↔inq (spOf sp j):=by
  intro j;rw[hs];split
  ·rename_i e;subst e;exact⟨fun _=>h0,fun _=>h2⟩
  ·exact Iff.rfl
 have hA:∀j,(spOf sp' j).a=(spOf sp j).a:=by
  intro j;rw[hs];split
  ·rename_i e;subst e;exact ha
  ·rfl
 refine {h with pcs:=fun j=> ?_,tick:=fun j hj=> ?_,hold:=fun j hj=> ?_,inj:=fun j k hj hk e=> ?_,all:=fun t t0 t1=> ?_,rng:=fun j=> ?r}
 case r=>rw[hA];exact h.rng j
 ·rw[hs];split
  ·exact .inr (.inr h2)
  ·exact h.pcs j
 ·rw[hA];exact h.tick j ((hh j).1 hj)
 ·rw[hs]at hj⊢;split at hj
  ·rename_i e;rw[if_pos e];exact hS
  ·rename_i e;rw[if_neg e];exact h.hold j hj
 ·rw[hA,hA]at e;exact h.inj j k ((hh j).1 hj) ((hh k).1 hk) e
 ·obtain⟨k,k1,k2⟩:=h.all t t0 t1
  exact⟨k,(hh k).2 k1,by rw[hA];exact k2⟩
theorem Inv.takes {P:Par}{σ:Ar}{sp sp':List Sp}{S T:Nat}(h:Inv P σ sp S T)(i:Int)(s':Sp)(hs:∀j,spOf sp' j=if j=i then s' else spOf sp j)(h0:¬inq (spOf sp i))(h1:s'.pc=2)(ha:s'.a=T):Inv P (σ.op 5 P.next true (T+1)) sp' S (T+1):=by
 have hg:=fun q=>get_op σ h.hl 5 P.next ((T:Int)+1) true q;simp only[h.hasN,true_and]at hg;have h2:inq s':= .inl h1;refine {p1:=h.p1,p2:=h.p2,n1:=h.n1,le:=by have:=h.le;omega,hl:= ?_,n2:= ?_,gT:= ?_,srv:= ?_,low:= ?_,pcs:=fun j=> ?_,tick:=fun j hj=> ?_,hold:=fun j hj=> ?_,inj:=fun j k hj hk e=> ?_,all:=fun t t0 t1=> ?_,rng:=fun j=> ?r}
 case r=>
  have hr:=h.rng j;rw[hs];split
  ·rw[ha];have:=h.rng i;omega
  ·omega
 ·rw[op_t,op_len];exact h.hl
 ·rw[op_t];exact h.n2
 ·rw[hg,if_pos rfl];simp
 ·obtain⟨x,x0,x1,e⟩:=place_in h.p1 S
  have:=h.srv;rw[hg,if_neg (by rw[e];omega)];exact this
 ·intro x x0 x1
  rw[hg,if_neg (by omega)];exact h.low x x0 x1
 ·rw[hs];split
  ·exact .inr (.inr h2)
  ·exact h.pcs j
 ·rw[hs]at hj⊢;split at hj
  ·rename_i e;rw[if_pos e,ha];have:=h.le;omega
  ·rename_i e;rw[if_neg e];have:=h.tick j hj;omega
 ·rw[hs]at hj⊢;split at hj
  ·omega
  ·rename_i e;rw[if_neg e];exact h.hold j hj
 ·rw[hs]at hj hk e;rw[hs k]at e
  split at hj
  ·split at hk
   ·omega
   ·rename_i e1 e2
    rw[if_pos e1,if_neg e2,ha]at e;have:=h.tick k hk;omega
  ·split at hk
   ·rename_i e1 e2
    rw[if_neg e1,if_pos e2,ha]at e;have:=h.tick j hj;omega
   ·rename_i e1 e2
    rw[if_neg e1,if_neg e2]at e;exact h.inj j k hj hk e
 ·by_cases e:t=T
  ·exact⟨i,by rw[hs,if_pos rfl];exact⟨h2,by rw[ha,e]⟩⟩
  ·obtain⟨k,k1,k2⟩:=h.all t t0 (by omega)
   refine⟨k,?_⟩;have:k≠i:=fun e=>h0 (e▸k1);rw[hs,if_neg this];exact⟨k1,k2⟩
theorem Inv.passes {P:Par}{σ:Ar}{sp sp':List Sp}{S T:Nat}(h:Inv P σ sp S T)(i:Int)(s':Sp)(hs:∀j,spOf sp' j=if j=i then s' else spOf sp j)(h0:(spOf sp i).pc=10∨(spOf sp i).pc=11)(h1:s'.pc=0)(ha:s'.a=(spOf sp i).a):Inv P (σ.op 2 (place P ((S:Int)+1)) true (S+1)) sp' (S+1) T:=by
 have hg:=fun q=>get_op σ h.hl 2 (place P ((S:Int)+1)) ((S:Int)+1) true q;simp only[h.has,true_and]at hg;have hq:inq (spOf sp i):= .inr h0;have hS:=h.hold i h0;have hT:=h.tick i hq;have h2:¬inq s':=by unfold inq;omega
 obtain⟨y,y0,y1,ey⟩:=place_in h.p1 ((S:Int)+1);refine {p1:=h.p1,p2:=h.p2,n1:=h.n1,le:=by omega,hl:= ?_,n2:= ?_,gT:= ?_,srv:= ?_,low:= ?_,pcs:=fun j=> ?_,tick:=fun j hj=> ?_,hold:=fun j hj=> ?_,inj:=fun j k hj hk e=> ?_,all:=fun t t0 t1=> ?_,rng:=fun j=> ?r}
 case r=>
  have hr:=h.rng j;rw[hs];split
  ·rw[ha];have:=h.rng i;omega
  ·omega
 ·rw[op_t,op_len];exact h.hl
 ·rw[op_t];exact h.n2
 ·rw[hg,if_neg (by rw[ey];omega)];exact h.gT
 ·rw[hg,if_pos (by simp)];simp<;>omega
 ·intro x x0 x1
  rw[hg];have:=h.low x x0 x1;split<;>omega
 ·rw[hs];split
  ·exact .inl h1
  ·exact h.pcs j
 ·rw[hs]at hj⊢;split at hj
  ·exact absurd hj h2
  ·rename_i e
   rw[if_neg e];have h3:=h.tick j hj;have h4:(spOf sp j).a≠(spOf sp i).a:=fun e'=>e (h.inj j i hj hq e');omega
 ·rw[hs]at hj⊢;split at hj
  ·omega
  ·rename_i e
   exact absurd (h.inj j i (.inr hj) hq (by rw[h.hold j hj,hS])) e
 ·rw[hs]at hj hk e;rw[hs k]at e
  split at hj
  ·exact absurd hj h2
  ·split at hk
   ·exact absurd hk h2
   ·rename_i e1 e2
    rw[if_neg e1,if_neg e2]at e;exact h.inj j k hj hk e
 ·obtain⟨k,k1,k2⟩:=h.all t (by omega) t1
  refine⟨k,?_⟩;have:k≠i:=fun e=>by subst e;omega
  rw[hs,if_neg this];exact⟨k1,k2⟩
theorem Inv.served {P:Par}{σ:Ar}{sp:List Sp}{S T:Nat}(h:Inv P σ sp S T)(i:Int)(h0:inq (spOf sp i))(h1:σ.get (place P (spOf sp i).a)=(spOf sp i).a):(spOf sp i).a=S:=by
 obtain⟨x,x0,x1,e⟩:=place_in h.p1 (spOf sp i).a;have:=h.low x x0 x1;rw[e]at h1;have:=h.tick i h0;omega
theorem step_inv {P:Par}{σ:Ar}{sp:List Sp}{S T:Nat}(h:Inv P σ sp S T)(i:Int):∃S' T',T'≤T+1∧Inv P (stepP P σ sp i).2.1 (stepP P σ sp i).2.2 S' T':=by
 unfold stepP;by_cases h1:(spOf sp i).pc=1
 ·rw[if_pos h1]
  obtain⟨i0,i1⟩:=spOf_range (sp:=sp) (i:=i) (by omega);refine⟨S,T+1,Nat.le_refl _,?_⟩;have:=h.takes i _ (spOf_set i0 i1 {spOf sp i with pc:=2,a:=σ.get P.next}) (by unfold inq;omega) rfl h.gT;rw[←h.gT]at this;exact this
 rw[if_neg h1];by_cases h2:(spOf sp i).pc=2
 ·rw[if_pos h2]
  obtain⟨i0,i1⟩:=spOf_range (sp:=sp) (i:=i) (by omega);refine⟨S,T,Nat.le_succ _,?_⟩;by_cases h3:σ.get (place P (spOf sp i).a)=(spOf sp i).a
  ·simp only[h3,if_true]
   exact(h.keeps i _ (spOf_set i0 i1 {spOf sp i with pc:=10}) (.inl h2) (.inl rfl) rfl (h.served i (.inl h2) h3)).read _ _
  ·simp only[h3,if_false]
   exact h.read _ _
 rw[if_neg h2];by_cases h3:(spOf sp i).pc=11
 ·rw[if_pos h3]
  obtain⟨i0,i1⟩:=spOf_range (sp:=sp) (i:=i) (by omega);refine⟨S+1,T,Nat.le_succ _,?_⟩;have:=h.passes i _ (spOf_set i0 i1 {spOf sp i with pc:=0}) (.inr h3) rfl rfl;have e:=h.hold i (.inr h3);rw[←e]at this;exact this
 rw[if_neg h3];exact⟨S,T,Nat.le_succ _,h⟩
theorem do_inv {P:Par}{σ:Ar}{sp:List Sp}{S T:Nat}(h:Inv P σ sp S T)(kd i:Int):∃S' T',T'≤T+1∧Inv P (doP P σ sp kd i).2.1 (doP P σ sp kd i).2.2 S' T':=by
 unfold doP;split
 ·exact step_inv h i
 split
 ·refine⟨S,T,Nat.le_succ _,?_⟩
  cases ht:turnB sp i 0
  ·simp only[turn_no 1 ht];exact h
  ·have hp:=(turn_true ht).2
   exact h.idle i _ (spOf_turn 1 ht) (by unfold inq;omega) (.inr rfl) rfl
 split
 ·refine⟨S,T,Nat.le_succ _,?_⟩
  cases ht:turnB sp i 10
  ·simp only[turn_no 11 ht];exact h
  ·have hp:=(turn_true ht).2
   exact h.keeps i _ (spOf_turn 11 ht) (.inr (.inl hp)) (.inr rfl) rfl (h.hold i (.inl hp))
 split
 ·refine⟨S,T,Nat.le_succ _,?_⟩
  unfold aloneP;split
  ·exact h.read _ _
  ·exact h
 ·exact⟨S,T,Nat.le_succ _,h⟩
theorem Inv.one {P:Par}{σ:Ar}{sp:List Sp}{S T:Nat}(h:Inv P σ sp S T)(n:Nat):cnt (fun s=>s.pc==10) sp n≤1:=by
 refine cnt_one _ _ (fun i j hi hj=> ?_) n;simp only[beq_iff_eq]at hi hj;exact h.inj i j (.inr (.inl hi)) (.inr (.inl hj)) (by rw[h.hold i (.inl hi),h.hold j (.inl hj)])
theorem Inv.behind {P:Par}{σ:Ar}{sp:List Sp}{S T:Nat}(h:Inv P σ sp S T)(i:Int)(hp:(spOf sp i).pc=10)(ha:(aloneP P σ sp i).1=false):0<cnt (fun s=>decide (0<s.pc)&&decide (s.pc<10)) sp sp.length:=by
 unfold aloneP at ha;rw[if_pos hp,h.gT,h.hold i (.inl hp)]at ha;simp at ha;have hT:=h.tick i (.inr (.inl hp));have hS:=h.hold i (.inl hp);obtain⟨k,k1,k2⟩:=h.all (S+1) (by omega) (by omega)
 have h3:(spOf sp k).pc=2:=by
  rcases k1 with k1|k1
  ·exact k1
  ·have:=h.hold k k1
   omega
 obtain⟨r0,r1⟩:=spOf_range (sp:=sp) (i:=k) (by omega);exact cnt_some _ _ k (by rw[h3];rfl) r0 _ r1
theorem zero_get (n t:Nat)(o k p:Int)(ops:Nat)(wr:Bool)(q:Int):(⟨zerosW n,t,ops,k,p,wr⟩:Ar).get q=0:=by
 unfold Ar.get;split
 ·simp[zerosW,List.getD_eq_getElem?_getD,List.getElem?_replicate]
  split<;>rfl
 ·rfl
theorem zero_spot (n:Nat)(i:Int):spOf (List.replicate n sp0) i=sp0:=by
 unfold spOf;split
 ·simp[List.getD_eq_getElem?_getD,List.getElem?_replicate]
  split<;>rfl
 ·rfl
theorem inv_start (n:Nat):Inv ⟨1⟩ (⟨zerosW 100,2,0,0,0,false⟩:Ar) (List.replicate n sp0) 0 0:=by
 have hg:=fun q=>zero_get 100 2 0 0 0 0 false q;have hs:=zero_spot n
 have hq:∀i,¬inq (spOf (List.replicate n sp0) i):=by
  intro i;rw[hs];unfold inq sp0;simp
 refine {p1:=Int.le_refl _,p2:=by show(1:Int)≤32;decide,n1:=Int.le_refl _,le:=Nat.le_refl _,hl:= ?_,n2:=by show(1:Int)+1≤((2:Nat):Int);decide,gT:=hg _,srv:=hg _,low:=fun x _ _=>by rw[hg];exact Int.le_refl _,pcs:=fun i=> ?_,tick:=fun i hi=>absurd hi (hq i),hold:=fun i hi=>absurd (Or.inr hi) (hq i),inj:=fun i j hi=>absurd hi (hq i),all:=fun t t0 t1=> ?_,rng:=fun i=> ?_}
 ·show 2≤(zerosW 100).length
  have:(zerosW 100).length=100:=List.length_replicate;omega
 ·left;rw[hs];rfl
 ·omega
 ·rw[hs];exact⟨Int.le_refl _,Int.le_refl _⟩
end Go.Proofs.YtfmiioddhpkdkaaGreat.Tk
namespace Go.Proofs.YtfmiioddhpkdkaaGreat.Tk
open Go.RowKit Go.Proofs.YtfmiioddhpkdkaaGreat.Ara Go.Proofs.YtfmiioddhpkdkaaGreat.Lok
structure St where
 σ:Ar
 sp:List Sp
 doors:List Int
 held:List Int
def ordS (P:Par)(x:St)(c:Ac):St:=
 {σ:=(doP P x.σ x.sp c.kind c.i).2.1,sp:=(doP P x.σ x.sp c.kind c.i).2.2,
  doors:=if c.kind=0∧0<(spOf x.sp c.i).pc∧(spOf x.sp c.i).pc<10∧x.σ.ops<(doP P x.σ x.sp c.kind c.i).2.1.ops∧(doP P x.σ x.sp c.kind c.i).2.1.kind=5 then x.doors++ [c.i]else x.doors,
  held:=if(spOf x.sp c.i).pc<10∧(spOf (doP P x.σ x.sp c.kind c.i).2.2 c.i).pc=10 then x.held++ [c.i]else x.held}
def inn (s:Sp):Prop:=s.pc=10∨s.pc=11
structure OrdI (P:Par)(x:St)(S T:Nat):Prop where
 inv:Inv P x.σ x.sp S T
 dl:x.doors.length=T
 dat:∀i,inq (spOf x.sp i)→x.doors[(spOf x.sp i).a.toNat]? =some i
 take:x.held=x.doors.take x.held.length
 cnt:((∃i,inn (spOf x.sp i))∧x.held.length=S+1)∨((∀i,¬inn (spOf x.sp i))∧x.held.length=S)
def OrdP (P:Par)(x:St):Prop:=∃S T,OrdI P x S T
theorem OrdI.keep {P:Par}{x:St}{S T:Nat}(h:OrdI P x S T){σ':Ar}{sp':List Sp}(hi:Inv P σ' sp' S T)(hq:∀i,inq (spOf sp' i)→inq (spOf x.sp i)∧(spOf sp' i).a=(spOf x.sp i).a)(hn:∀i,inn (spOf sp' i)↔inn (spOf x.sp i)):
 OrdI P {σ:=σ',sp:=sp',doors:=x.doors,held:=x.held} S T:=by
 refine⟨hi,h.dl,fun i h1=> ?_,h.take,?_⟩
 ·obtain⟨h2,e⟩:=hq i h1
  show x.doors[_]? =_;rw[e];exact h.dat i h2
 ·rcases h.cnt with⟨⟨i,h1⟩,e⟩|⟨h1,e⟩
  ·exact .inl ⟨⟨i,(hn i).2 h1⟩,e⟩
  ·exact .inr ⟨fun i h2=>h1 i ((hn i).1 h2),e⟩
theorem OrdI.doors {P:Par}{x:St}{S T:Nat}(h:OrdI P x S T){c:Ac}(hd:¬(c.kind=0∧0<(spOf x.sp c.i).pc∧(spOf x.sp c.i).pc<10∧x.σ.ops<(doP P x.σ x.sp c.kind c.i).2.1.ops∧(doP P x.σ x.sp c.kind c.i).2.1.kind=5))(hh:¬((spOf x.sp c.i).pc<10∧(spOf (doP P x.σ x.sp c.kind c.i).2.2 c.i).pc=10)):
 ordS P x c={σ:=(doP P x.σ x.sp c.kind c.i).2.1,sp:=(doP P x.σ x.sp c.kind c.i).2.2,doors:=x.doors,held:=x.held}:=by
 unfold ordS;rw[if_neg hd,if_neg hh]
theorem do_0 (P:Par)(σ:Ar)(sp:List Sp)(i:Int):doP P σ sp 0 i=stepP P σ sp i:=rfl
theorem step_1 {P:Par}{σ:Ar}{sp:List Sp}{i:Int}(h:(spOf sp i).pc=1):stepP P σ sp i=(false,σ.op 5 P.next true (σ.get P.next+1),sp.set i.toNat {spOf sp i with pc:=2,a:=σ.get P.next}):=by
 unfold stepP;rw[if_pos h]
theorem step_2 {P:Par}{σ:Ar}{sp:List Sp}{i:Int}(h:(spOf sp i).pc=2):stepP P σ sp i=(σ.get (place P (spOf sp i).a)==(spOf sp i).a,σ.op 1 (place P (spOf sp i).a) false 0,if σ.get (place P (spOf sp i).a)=(spOf sp i).a then sp.set i.toNat {spOf sp i with pc:=10}else sp):=by
 unfold stepP;rw[if_neg (by omega),if_pos h]
theorem step_11 {P:Par}{σ:Ar}{sp:List Sp}{i:Int}(h:(spOf sp i).pc=11):stepP P σ sp i=(true,σ.op 2 (place P ((spOf sp i).a+1)) true ((spOf sp i).a+1),sp.set i.toNat {spOf sp i with pc:=0}):=by
 unfold stepP;rw[if_neg (by omega),if_neg (by omega),if_pos h]
theorem step_no {P:Par}{σ:Ar}{sp:List Sp}{i:Int}(h1:(spOf sp i).pc≠1)(h2:(spOf sp i).pc≠2)(h3:(spOf sp i).pc≠11):stepP P σ sp i=(false,σ,sp):=by
 unfold stepP;rw[if_neg h1,if_neg h2,if_neg h3]
theorem do_len (P:Par)(σ:Ar)(sp:List Sp)(kd i:Int):(doP P σ sp kd i).2.2.length=sp.length:=by
 unfold doP;split
 ·unfold stepP
  split
  ·simp
  split
  ·simp only;split<;>simp
  split
  ·simp
  ·rfl
 split
 ·exact turnS_len _ _ _ _
 split
 ·exact turnS_len _ _ _ _
 split<;>rfl
theorem do_ops (P:Par)(σ:Ar)(sp:List Sp)(kd i:Int):(doP P σ sp kd i).2.1.ops≤σ.ops+1∧σ.ops≤(doP P σ sp kd i).2.1.ops:=by
 have h:∀(kd p v:Int) (wr:Bool),(σ.op kd p wr v).ops≤σ.ops+1∧σ.ops≤(σ.op kd p wr v).ops:=by
  intro kd p v wr;rw[op_ops];split<;>omega
 unfold doP;split
 ·unfold stepP
  split
  ·exact h _ _ _ _
  split
  ·exact h _ _ _ _
  split
  ·exact h _ _ _ _
  ·exact⟨Nat.le_succ _,Nat.le_refl _⟩
 split
 ·exact⟨Nat.le_succ _,Nat.le_refl _⟩
 split
 ·exact⟨Nat.le_succ _,Nat.le_refl _⟩
 split
 ·unfold aloneP
  split
  ·exact h _ _ _ _
  ·exact⟨Nat.le_succ _,Nat.le_refl _⟩
 ·exact⟨Nat.le_succ _,Nat.le_refl _⟩
end Go.Proofs.YtfmiioddhpkdkaaGreat.Tk
namespace Go.Proofs.YtfmiioddhpkdkaaGreat.Tk
open Go.RowKit Go.Proofs.YtfmiioddhpkdkaaGreat.Ara Go.Proofs.YtfmiioddhpkdkaaGreat.Lok
def LkAt (W:World)(gl ga ha hs:Nat)(P:Par)(σ:Ar)(sp:List Sp):Prop:=
 ArAt W ga ha σ∧SpAt W hs sp∧sp.length≤32∧(∃c:Nat,W.heap[gl]? =some (.cells #[.slice (some ⟨hs,0,none⟩) sp.length c,.pointer (some ⟨ga,0,none⟩),.int .i64 P.next] 267 (0,0)))∧gl≠ga∧gl≠ha∧gl≠hs∧hs≠ga∧hs≠ha
theorem LkAt.mod {S:List Nat}{W W':World}{gl ga ha hs:Nat}{P:Par}{σ:Ar}{sp:List Sp}(k:LkAt W gl ga ha hs P σ sp)(hm:Mod S W W')(h1:gl∉S)(h2:ga∉S)(h3:ha∉S)(h4:hs∉S):LkAt W' gl ga ha hs P σ sp:=by
 obtain⟨k1,k2,k3,⟨c,k4⟩,k5⟩:=k;exact⟨k1.mod hm h2 h3,k2.mod hm h4,k3,⟨c,hm.blk k4 h1⟩,k5⟩
theorem LkAt.same {W W':World}{gl ga ha hs:Nat}{P:Par}{σ:Ar}{sp:List Sp}(k:LkAt W gl ga ha hs P σ sp)(hb:Below W.heap.size W W'):LkAt W' gl ga ha hs P σ sp:=
 k.mod (S:=[]) (Mod.of_below hb) (by simp) (by simp) (by simp) (by simp)
theorem LkAt.drewN {W:World}{gl ga ha hs:Nat}{P:Par}{σ:Ar}{sp:List Sp}(k:LkAt W gl ga ha hs P σ sp)(n:Nat):LkAt (W.drewN n) gl ga ha hs P σ sp:=k
theorem LkAt.arena {W W':World}{gl ga ha hs:Nat}{P:Par}{σ σ':Ar}{sp:List Sp}(k:LkAt W gl ga ha hs P σ sp)(ha':ArAt W' ga ha σ')(hm:Mod [ga,ha] W W'):LkAt W' gl ga ha hs P σ' sp:=by
 obtain⟨_,k2,k3,⟨c,k4⟩,d1,d2,d3,d4,d5⟩:=k;exact⟨ha',k2.mod hm (by simp;omega),k3,⟨c,hm.blk k4 (by simp;omega)⟩,d1,d2,d3,d4,d5⟩
theorem LkAt.spots {W W':World}{gl ga ha hs:Nat}{P:Par}{σ:Ar}{sp sp':List Sp}(k:LkAt W gl ga ha hs P σ sp)(hs':SpAt W' hs sp')(hm:Mod [hs] W W')(hl:sp'.length=sp.length):LkAt W' gl ga ha hs P σ sp':=by
 obtain⟨k1,_,k3,⟨c,k4⟩,d1,d2,d3,d4,d5⟩:=k;refine⟨k1.mod hm (by simp;omega) (by simp;omega),hs',by omega,⟨c,?_⟩,d1,d2,d3,d4,d5⟩;have:=hm.blk k4 (by simp;omega);rw[hl];exact this
theorem LkAt.heads {W:World}{gl ga ha hs:Nat}{P:Par}{σ:Ar}{sp:List Sp}(k:LkAt W gl ga ha hs P σ sp):(∃c:Nat,W.cell? ⟨gl,0,none⟩=some (.slice (some ⟨hs,0,none⟩) sp.length c)∧W.cell? ⟨gl,1,none⟩=some (.pointer (some ⟨ga,0,none⟩))∧W.cell? ⟨gl,2,none⟩=some (.int .i64 P.next))∧sp.length≤32:=by
 obtain⟨_,_,k3,⟨c,k4⟩,_⟩:=k;exact⟨⟨c,blk_cell k4 0 (by simp),blk_cell k4 1 (by simp),blk_cell k4 2 (by simp)⟩,k3⟩
section
variable(gl ga ha hs:Nat)(P:Par)(σ:Ar)(sp:List Sp)(w:World)(H:LkAt w gl ga ha hs P σ sp)
include H
theorem slots_lk:Calls Tryz.prog 354 #[.pointer (some ⟨gl,0,none⟩)] w fun e w'=>e= .returned (.int .i64 sp.length)∧w'=w:=by
 obtain⟨⟨cc,q0,q1,q2⟩,hl⟩:=H.heads;clear H;go_enter Tryz.func354,Tryz.ntmps354;go_wp2_with fail;go_ret;exact⟨rfl,rfl⟩
theorem spot_out_lk (i:Int)(hi:i<0∨(sp.length:Int)≤i):Calls Tryz.prog 353 #[.pointer (some ⟨gl,0,none⟩),.int .i64 i] w fun e w'=>e= .returned (.pointer none)∧w'=w:=by
 have HS:=Lib.hid (slots_lk gl ga ha hs P σ sp w H);obtain⟨⟨cc,q0,q1,q2⟩,hl⟩:=H.heads;clear H;by_cases h0:i<0
 ·go_enter Tryz.func353,Tryz.ntmps353
  go_wp2_with fail;go_ret;exact⟨rfl,rfl⟩
 ·have h1:(sp.length:Int)≤i:=by omega
  go_enter Tryz.func353,Tryz.ntmps353;go_wp2_with fail;refine(HS.out).mono ?_;rintro e wx ⟨rfl,hwx⟩;obtain rfl:=hwx.symm;go_wp2_with fail;go_ret;exact⟨rfl,rfl⟩
theorem spot_in_lk (k:Nat)(hk:k<sp.length):Calls Tryz.prog 353 #[.pointer (some ⟨gl,0,none⟩),.int .i64 (k:Int)] w fun e w'=>e= .returned (.pointer (some ⟨hs,k*4,none⟩))∧w'=w:=by
 have HS:=Lib.hid (slots_lk gl ga ha hs P σ sp w H);obtain⟨⟨cc,q0,q1,q2⟩,hl⟩:=H.heads;have h1:(k:Int)<(sp.length:Int):=by omega
 have h2:(0:Int)≤(k:Int):=by omega
 clear H;go_enter Tryz.func353,Tryz.ntmps353;go_wp2_with fail;refine(HS.out).mono ?_;rintro e wx ⟨rfl,hwx⟩;obtain rfl:=hwx.symm;go_wp2_with fail;go_ret;exact⟨rfl,rfl⟩
theorem Spot_lk (i:Int):Calls Tryz.prog 352 #[.pointer (some ⟨gl,0,none⟩),.int .i64 i] w fun e w'=>e= .returned (.agg #[.int .i64 (spOf sp i).pc,.int .i64 (spOf sp i).a,.int .i64 (spOf sp i).b,.int .i64 (spOf sp i).c])∧Below w.heap.size w w':=by
 by_cases hi:i<0∨(sp.length:Int)≤i
 ·rw[spOf_out hi]
  have HS:=Lib.hid (fun W K=>spot_out_lk gl ga ha hs P σ sp W K i hi);have HH:=Lib.hid (H.same (below_new w (.cells #[.int .i64 0,.int .i64 0,.int .i64 0,.int .i64 0] 134)));clear H hi;go_enter Tryz.func352,Tryz.ntmps352;go_wp2_with fail;refine(HS.out _ HH.out).mono ?_;rintro e wx ⟨rfl,hwx⟩;obtain rfl:=hwx.symm;go_wp2_with fail;exact bodyPost_ret (v:= .agg #[.int .i64 0,.int .i64 0,.int .i64 0,.int .i64 0]) (by simp[results,Tryz.results352,go_sem]) rfl ⟨rfl,(Below.refl _ _).alloc (Nat.le_refl _) _⟩
 ·obtain⟨k,rfl⟩:=Int.eq_ofNat_of_zero_le (show 0≤i by omega)
  have hk:k<sp.length:=by omega
  have HS:=Lib.hid (fun W K=>spot_in_lk gl ga ha hs P σ sp W K k hk);have HH:=Lib.hid (H.same (below_new w (.cells #[.int .i64 0,.int .i64 0,.int .i64 0,.int .i64 0] 134)));obtain⟨c0,c1,c2,c3,_⟩:=H.2.1.cells k hk;have hlt:=H.2.1.lt;have e0:=spOf_in hk;rw[e0];clear H hi e0;generalize sp[k]=s at*;obtain⟨xp,xa,xb,xc⟩:=s;simp only at c0 c1 c2 c3⊢;go_enter Tryz.func352,Tryz.ntmps352;go_wp2_with fail;refine(HS.out _ HH.out).mono ?_;rintro e wx ⟨rfl,hwx⟩;obtain rfl:=hwx.symm;go_wp2_with fail;exact bodyPost_ret (v:= .agg #[.int .i64 xp,.int .i64 xa,.int .i64 xb,.int .i64 xc]) (by simp[results,Tryz.results352,go_sem]) rfl ⟨rfl,(Below.refl _ _).alloc (Nat.le_refl _) _⟩
end
section
variable(gl ga ha hs:Nat)(P:Par)(σ:Ar)(sp:List Sp)(w:World)(H:LkAt w gl ga ha hs P σ sp)
include H
theorem turn_lk (i fr tO:Int):Calls Tryz.prog 351 #[.pointer (some ⟨gl,0,none⟩),.int .i64 i,.int .i64 fr,.int .i64 tO] w fun e w'=>e= .returned (.bool (turnB sp i fr))∧LkAt w' gl ga ha hs P σ (turnS sp i fr tO)∧Mod [hs] w w':=by
 by_cases hi:i<0∨(sp.length:Int)≤i
 ·rw[turn_out hi,turnS_out hi]
  have HS:=Lib.hid (spot_out_lk gl ga ha hs P σ sp w H i hi)
  have HA:Calls Tryz.prog 350 #[.pointer (some ⟨gl,0,none⟩),.int .i64 i,.int .i64 fr] w fun e w'=>e= .returned (.pointer none)∧w'=w:=by
   clear H hi;go_enter Tryz.func350,Tryz.ntmps350;go_wp2_with fail;refine(HS.out).mono ?_;rintro e wx ⟨rfl,hwx⟩;obtain rfl:=hwx.symm;go_wp2_with fail;go_ret;exact⟨rfl,rfl⟩
  replace HA:=Lib.hid HA;have HH:=Lib.hid H;clear H hi;go_enter Tryz.func351,Tryz.ntmps351;go_wp2_with fail;refine(HA.out).mono ?_;rintro e wx ⟨rfl,hwx⟩;obtain rfl:=hwx.symm;go_wp2_with fail;go_ret;exact⟨rfl,HH.out,Mod.refl _ _⟩
 ·obtain⟨k,rfl⟩:=Int.eq_ofNat_of_zero_le (show 0≤i by omega)
  have hk:k<sp.length:=by omega
  have HS:=Lib.hid (spot_in_lk gl ga ha hs P σ sp w H k hk);have c0:=(H.2.1.cells k hk).1;have f0:=(H.2.1.cells k hk).2.2.2.2 (k*4);have HH:=Lib.hid H;have hm:Mod [hs] w (w.setCell ⟨hs,k*4,none⟩ (.int .i64 tO)):=(Mod.refl _ _).setCell (by simp) _;have HT:=Lib.hid (H.spots (H.2.1.setPc k hk tO) hm (by rw[List.length_set]));rw[turn_in hk,turnS_in hk];by_cases hp:sp[k].pc=fr
  ·rw[if_pos hp,beq_iff_eq.2 hp]
   rw[hp]at c0;have e1:=ibne_no (rfl:fr=fr);generalize sp.set k {sp[k]with pc:=tO}=sp2 at*;clear H hi hp hk
   have HA:Calls Tryz.prog 350 #[.pointer (some ⟨gl,0,none⟩),.int .i64 (k:Int),.int .i64 fr] w fun e w'=>e= .returned (.pointer (some ⟨hs,k*4,none⟩))∧w'=w:=by
    go_enter Tryz.func350,Tryz.ntmps350;go_wp2_with fail;refine(HS.out).mono ?_;rintro e wx ⟨rfl,hwx⟩;obtain rfl:=hwx.symm;go_wp2_with fail;go_ret;exact⟨rfl,rfl⟩
   replace HA:=Lib.hid HA;go_enter Tryz.func351,Tryz.ntmps351;go_wp2_with fail;refine(HA.out).mono ?_;rintro e wx ⟨rfl,hwx⟩;obtain rfl:=hwx.symm;go_wp2_with fail;go_ret;exact⟨rfl,HT.out,hm⟩
  ·rw[if_neg hp,beq_eq_false_iff_ne.2 hp]
   have e1:=ibne hp;generalize sp[k].pc=x at*;clear H hi hp HT hm hk f0
   have HA:Calls Tryz.prog 350 #[.pointer (some ⟨gl,0,none⟩),.int .i64 (k:Int),.int .i64 fr] w fun e w'=>e= .returned (.pointer none)∧w'=w:=by
    go_enter Tryz.func350,Tryz.ntmps350;go_wp2_with fail;refine(HS.out).mono ?_;rintro e wx ⟨rfl,hwx⟩;obtain rfl:=hwx.symm;go_wp2_with fail;go_ret;exact⟨rfl,rfl⟩
   replace HA:=Lib.hid HA;go_enter Tryz.func351,Tryz.ntmps351;go_wp2_with fail;refine(HA.out).mono ?_;rintro e wx ⟨rfl,hwx⟩;obtain rfl:=hwx.symm;go_wp2_with fail;go_ret;exact⟨rfl,HH.out,Mod.refl _ _⟩
omit H in
theorem of_lk (W:World):Calls Tryz.prog 349 #[.pointer (some ⟨gl,0,none⟩)] W fun e w'=>e= .returned (.pointer (some ⟨gl,0,none⟩))∧w'=W:=by
 go_enter Tryz.func349,Tryz.ntmps349;go_wp2_with fail;go_ret;exact⟨rfl,rfl⟩
theorem Ask_lk (i:Int):Calls Tryz.prog 344 #[.pointer (some ⟨gl,0,none⟩),.int .i64 i] w fun e w'=>e= .returned (.bool (turnB sp i 0))∧LkAt w' gl ga ha hs P σ (turnS sp i 0 1)∧Mod [hs] w w':=by
 have HT:=Lib.hid (turn_lk gl ga ha hs P σ sp w H i 0 1);clear H;generalize turnB sp i 0=b at*;generalize turnS sp i 0 1=sp2 at*;go_enter Tryz.func344,Tryz.ntmps344;go_wp2_with fail;refine(of_lk gl _).mono ?_;rintro e wx ⟨rfl,hwx⟩;obtain rfl:=hwx.symm;go_wp2_with fail;refine HT.out.mono ?_;rintro e w2 ⟨rfl,h2,hm⟩;go_wp2_with fail;go_ret;exact⟨rfl,h2,hm⟩
theorem Leave_lk (i:Int):Calls Tryz.prog 345 #[.pointer (some ⟨gl,0,none⟩),.int .i64 i] w fun e w'=>e= .returned (.bool (turnB sp i 10))∧LkAt w' gl ga ha hs P σ (turnS sp i 10 11)∧Mod [hs] w w':=by
 have HT:=Lib.hid (turn_lk gl ga ha hs P σ sp w H i 10 11);clear H;generalize turnB sp i 10=b at*;generalize turnS sp i 10 11=sp2 at*;go_enter Tryz.func345,Tryz.ntmps345;go_wp2_with fail;refine(of_lk gl _).mono ?_;rintro e wx ⟨rfl,hwx⟩;obtain rfl:=hwx.symm;go_wp2_with fail;refine HT.out.mono ?_;rintro e w2 ⟨rfl,h2,hm⟩;go_wp2_with fail;go_ret;exact⟨rfl,h2,hm⟩
theorem LSpot_lk (i:Int):Calls Tryz.prog 347 #[.pointer (some ⟨gl,0,none⟩),.int .i64 i] w fun e w'=>e= .returned (.agg #[.int .i64 (spOf sp i).pc,.int .i64 (spOf sp i).a,.int .i64 (spOf sp i).b,.int .i64 (spOf sp i).c])∧Below w.heap.size w w':=by
 have hbn:=below_new w (.cells #[.int .i64 0,.int .i64 0,.int .i64 0,.int .i64 0] 134);have hbk:=blk_new w (.cells #[.int .i64 0,.int .i64 0,.int .i64 0,.int .i64 0] 134);have hz:w.heap.size<(w.alloc (.cells #[.int .i64 0,.int .i64 0,.int .i64 0,.int .i64 0] 134)).heap.size:=by simp
 have HB:=Lib.hid hbk;clear hbk;have HT:=Lib.hid (Spot_lk gl ga ha hs P σ sp _ (H.same hbn) i);clear H;generalize spOf sp i=s at*;obtain⟨xp,xa,xb,xc⟩:=s;simp only at HT⊢;go_enter Tryz.func347,Tryz.ntmps347;go_wp2_with fail;refine(of_lk gl _).mono ?_;rintro e wx ⟨rfl,hwx⟩;obtain rfl:=hwx.symm;go_wp2_with fail;refine HT.out.mono ?_;rintro e w2 ⟨rfl,hb2⟩;have hbk2:=(Mod.of_below (S:=[]) hb2).blk HB.out (by simp);have d0:=blk_cell hbk2 0 (by simp);have d1:=blk_cell hbk2 1 (by simp);have d2:=blk_cell hbk2 2 (by simp);have d3:=blk_cell hbk2 3 (by simp);have f0:=blk_free hbk2 0;have f1:=blk_free hbk2 1;have f2:=blk_free hbk2 2;have f3:=blk_free hbk2 3;simp only[List.getElem_toArray,List.getElem_cons_zero,List.getElem_cons_succ]at d0 d1 d2 d3;have hB:=Lib.hid (hbn.trans (hb2.mono hbn.size));have k0:=blk_set hbk2 0 (.int .i64 (xp));have k1:=blk_set k0 1 (.int .i64 (xa));have k2:=blk_set k1 2 (.int .i64 (xb));have k3:=blk_set k2 3 (.int .i64 (xc));have g0:=blk_cell k0 0 (by simp);have g1:=blk_cell k1 1 (by simp);have g2:=blk_cell k2 2 (by simp);have g3:=blk_cell k3 3 (by simp);simp at g0 g1 g2 g3;clear hbk2 hb2 k0 k1 k2 k3;go_wp2_with fail;exact bodyPost_ret (v:= .agg #[.int .i64 (xp),.int .i64 (xa),.int .i64 (xb),.int .i64 (xc)]) (by simp[results,Tryz.results347,go_sem,g0,g1,g2,g3]) rfl ⟨rfl,by first|exact hB.out|exact(((((hB.out.setCell (Nat.le_refl _) _).setCell (Nat.le_refl _) _).setCell (Nat.le_refl _) _).setCell (Nat.le_refl _) _))⟩
end
end Go.Proofs.YtfmiioddhpkdkaaGreat.Tk
