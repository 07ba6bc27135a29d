/- Merged texts: Fl1, Fl2, TkP, TkO. -/
import Derived.Test.YtfmiioddhpkdkaaGreatWz9
set_option linter.unusedVariables false
set_option linter.unusedSimpArgs false
set_option maxRecDepth 100000
set_option maxHeartbeats 8000000
namespace Go.Proofs.YtfmiioddhpkdkaaGreat.Fl
open Go.RowKit Ara Lok
theorem sfld0 (a b c d:Int)(W:World):(Instr.field 134 (.agg #[.int .i64 a,.int .i64 b,.int .i64 c,.int .i64 d]) 0).run Tryz.prog W= .ok (.int .i64 a) W:=by
 simp[Instr.field,run_underlying Tryz.underlying134,asAgg,go_sem]
def NoneAt (W:World)(q:Option Addr):Prop:=q=none∨∃g,q=some ⟨g,0,none⟩∧W.cell? ⟨g,0,none⟩=some (.int .i64 0)
section
variable(q:Option Addr)(w:World)(H:NoneAt w q)
include H
end
def FlB (W:World)(gf:Nat)(kind:Int)(T:TypeId)(v:Value):Prop:=W.heap[gf]? =some (.cells #[.int .i64 kind,.iface T v] 239 (0,0))
section
variable(gf:Nat)(kind:Int)(T:TypeId)(v:Value)(w:World)(H:FlB w gf kind T v)(hk:kind≠0)
include H hk
theorem made_yes:Calls Tryz.prog 174 #[.pointer (some ⟨gf,0,none⟩)] w fun e w'=>e= .returned (.bool true)∧w'=w:=by
 have c0:=blk_cell H 0 (by simp);simp only[List.getElem_toArray,List.getElem_cons_zero]at c0;have e1:=ibne hk;clear H hk;go_enter Tryz.func174,Tryz.ntmps174;go_wp2_with fail;go_ret;exact⟨rfl,rfl⟩
end
section
variable(gf gl:Nat)(w:World)(H:FlB w gf 1 225 (.agg #[.pointer (some ⟨gl,0,none⟩)]))
include H
end
end Go.Proofs.YtfmiioddhpkdkaaGreat.Fl
namespace Go.Proofs.YtfmiioddhpkdkaaGreat.Fl
open Go.RowKit Ara Lok
section
variable(gf gl ga ha hs:Nat)(P:Ta.Par)(σ:Ar)(sp:List Sp)(w:World)(H:FlB w gf 1 225 (.agg #[.pointer (some ⟨gl,0,none⟩)]))(K:Ta.LkAt w gl ga ha hs P σ sp)
theorem FlB.same {W W':World}{gf:Nat}{kind:Int}{T:TypeId}{v:Value}(h:FlB W gf kind T v)(hb:Below W.heap.size W W'):FlB W' gf kind T v:=(Mod.of_below (S:=[]) hb).blk h (by simp)
theorem FlB.mod {S:List Nat}{W W':World}{gf:Nat}{kind:Int}{T:TypeId}{v:Value}(h:FlB W gf kind T v)(hm:Mod S W W')(hn:gf∉S):FlB W' gf kind T v:=hm.blk h hn
include K in
theorem lone_alone (i:Int)(b:Bool)(hb:((spOf sp i).pc==10)=b):Calls Tryz.prog 342 #[.agg #[.pointer (some ⟨gl,0,none⟩)],.int .i64 i] w fun e w'=>e= .returned (.bool b)∧Below w.heap.size w w':=by
 have hbn:=below_new w (.cells #[.pointer (some ⟨gl,0,none⟩)] 225);have c0:=blk_cell (blk_new w (.cells #[.pointer (some ⟨gl,0,none⟩)] 225)) 0 (by simp);simp only[List.getElem_toArray,List.getElem_cons_zero]at c0;have HSp:=Ta.Spot_lk gl ga ha hs P σ sp _ (K.same hbn) i;generalize spOf sp i=s at*;obtain⟨xp,xa,xb,xc⟩:=s;replace HSp:=Lib.hid HSp;have q1:=fun a b c d W=>sfld0 a b c d W;have e9:((xp==10):Bool)=b:=hb;clear K hb;by_cases hp:xp=10
 ·subst hp
  obtain rfl:true=b:=e9;go_enter Tryz.func342,Tryz.ntmps342;go_wp2_with fail;refine HSp.out.mono ?_;rintro e w2 ⟨rfl,hb2⟩;go_wp2_with fail;go_ret;exact⟨rfl,hbn.trans (hb2.mono hbn.size)⟩
 ·have e8:=ibeq_no hp
  obtain rfl:false=b:=by rw[←e9];simpa using hp
  go_enter Tryz.func342,Tryz.ntmps342;go_wp2_with fail;refine HSp.out.mono ?_;rintro e w2 ⟨rfl,hb2⟩;go_wp2_with fail;go_ret;exact⟨rfl,hbn.trans (hb2.mono hbn.size)⟩
include H K
end
end Go.Proofs.YtfmiioddhpkdkaaGreat.Fl
namespace Go.Proofs.YtfmiioddhpkdkaaGreat.Tk
open Go.RowKit Ara Lok
structure Par where
 next:Int
def Par.parts (_:Par):Int:=1
def place (P:Par)(t:Int):Int:=P.next+1+t%P.parts
def stepP (P:Par)(σ:Ar)(sp:List Sp)(i:Int):Bool×Ar×List Sp:=
 if(spOf sp i).pc=1 then(false,σ.op 5 P.next true (σ.get P.next+1),sp.set i.toNat {spOf sp i with pc:=2,a:=σ.get P.next})
 else if(spOf sp i).pc=2 then(σ.get (place P (spOf sp i).a)==(spOf sp i).a,σ.op 1 (place P (spOf sp i).a) false 0,if σ.get (place P (spOf sp i).a)=(spOf sp i).a then sp.set i.toNat {spOf sp i with pc:=10}else sp)
 else if(spOf sp i).pc=11 then(true,σ.op 2 (place P ((spOf sp i).a+1)) true ((spOf sp i).a+1),sp.set i.toNat {spOf sp i with pc:=0})
 else(false,σ,sp)
def aloneP (P:Par)(σ:Ar)(sp:List Sp)(i:Int):Bool×Ar:=
 if(spOf sp i).pc=10 then(σ.get P.next==(spOf sp i).a+1,σ.op 1 P.next false 0)else(false,σ)
def doP (P:Par)(σ:Ar)(sp:List Sp)(kd i:Int):Bool×Ar×List Sp:=
 if kd=0 then stepP P σ sp i else if kd=1 then(turnB sp i 0,σ,turnS sp i 0 1)else if kd=2 then(turnB sp i 10,σ,turnS sp i 10 11)
 else if kd=3 then((aloneP P σ sp i).1,(aloneP P σ sp i).2,sp)else(false,σ,sp)
def inq (s:Sp):Prop:=s.pc=2∨s.pc=10∨s.pc=11
structure Inv (P:Par)(σ:Ar)(sp:List Sp)(S T:Nat):Prop where
 hl:σ.t≤σ.ws.length
 p1:1≤P.parts
 p2:P.parts≤32
 n1:1≤P.next
 n2:P.next+P.parts≤σ.t
 gT:σ.get P.next=T
 le:S≤T
 srv:σ.get (place P S)=S
 low:∀x:Int,0≤x→x<P.parts→σ.get (P.next+1+x)≤S
 pcs:∀i,(spOf sp i).pc=0∨(spOf sp i).pc=1∨inq (spOf sp i)
 tick:∀i,inq (spOf sp i)→(S:Int)≤(spOf sp i).a∧(spOf sp i).a<T
 hold:∀i,(spOf sp i).pc=10∨(spOf sp i).pc=11→(spOf sp i).a=S
 inj:∀i j,inq (spOf sp i)→inq (spOf sp j)→(spOf sp i).a=(spOf sp j).a→i=j
 all:∀t:Int,S≤t→t<T→∃i,inq (spOf sp i)∧(spOf sp i).a=t
 rng:∀i,0≤(spOf sp i).a∧(spOf sp i).a≤T
theorem place_in {P:Par}(h:1≤P.parts)(t:Int):∃x,0≤x∧x<P.parts∧place P t=P.next+1+x:=
 ⟨t%P.parts,Int.emod_nonneg _ (by omega),Int.emod_lt_of_pos _ (by omega),rfl⟩
theorem Inv.has {P:Par}{σ:Ar}{sp:List Sp}{S T:Nat}(h:Inv P σ sp S T)(t:Int):σ.has (place P t)=true:=by
 obtain⟨x,x0,x1,e⟩:=place_in h.p1 t;rw[e];have:=h.n1;have:=h.n2;simp[Ar.has];omega
theorem Inv.hasN {P:Par}{σ:Ar}{sp:List Sp}{S T:Nat}(h:Inv P σ sp S T):σ.has P.next=true:=by
 have:=h.n1;have:=h.n2;have:=h.p1;simp[Ar.has];omega
theorem Inv.read {P:Par}{σ:Ar}{sp:List Sp}{S T:Nat}(h:Inv P σ sp S T)(p v:Int):Inv P (σ.op 1 p false v) sp S T:=by
 refine {h with hl:= ?_,n2:= ?_,gT:= ?_,srv:= ?_,low:= ?_}
 ·rw[op_t,op_len];exact h.hl
 ·rw[op_t];exact h.n2
 ·rw[get_read σ h.hl];exact h.gT
 ·rw[get_read σ h.hl];exact h.srv
 ·intro x h0 h1
  rw[get_read σ h.hl];exact h.low x h0 h1
theorem Inv.idle {P:Par}{σ:Ar}{sp sp':List Sp}{S T:Nat}(h:Inv P σ sp S T)(i:Int)(s':Sp)(hs:∀j,spOf sp' j=if j=i then s' else spOf sp j)(h0:¬inq (spOf sp i))(h1:s'.pc=0∨s'.pc=1)(ha:s'.a=(spOf sp i).a):Inv P σ sp' S T:=by
 have h2:¬inq s':=by unfold inq;omega
 refine {h with pcs:=fun j=> ?_,tick:=fun j hj=> ?_,hold:=fun j hj=> ?_,inj:=fun j k hj hk e=> ?_,all:=fun t t0 t1=> ?_,rng:=fun j=> ?r}
 case r=>
  rw[hs];split
  ·rw[ha];exact h.rng i
  ·exact h.rng j
 ·rw[hs];split
  ·omega
  ·exact h.pcs j
 ·rw[hs]at hj⊢;split at hj
  ·exact absurd hj h2
  ·rename_i e;rw[if_neg e];exact h.tick j hj
 ·rw[hs]at hj⊢;split at hj
  ·omega
  ·rename_i e;rw[if_neg e];exact h.hold j hj
 ·rw[hs]at hj hk e;rw[hs k]at e
  split at hj
  ·exact absurd hj h2
  ·split at hk
   ·exact absurd hk h2
   ·rename_i e1 e2
    rw[if_neg e1,if_neg e2]at e;exact h.inj j k hj hk e
 ·obtain⟨k,k1,k2⟩:=h.all t t0 t1
  refine⟨k,?_⟩;have:k≠i:=fun e=>h0 (e▸k1);rw[hs,if_neg this];exact⟨k1,k2⟩
theorem Inv.keeps {P:Par}{σ:Ar}{sp sp':List Sp}{S T:Nat}(h:Inv P σ sp S T)(i:Int)(s':Sp)(hs:∀j,spOf sp' j=if j=i then s' else spOf sp j)(h0:inq (spOf sp i))(h1:s'.pc=10∨s'.pc=11)(ha:s'.a=(spOf sp i).a)(hS:s'.a=S):Inv P σ sp' S T:=by
 have h2:inq s':=by unfold inq;omega
 have hh:∀j,inq (spOf sp' j)↔inq (spOf sp j):=by
  intro j;rw[hs];split
  ·rename_i e;subst e;exact⟨fun _=>h0,fun _=>h2⟩
  ·exact Iff.rfl
 have hA:∀j,(spOf sp' j).a=(spOf sp j).a:=by
  intro j;rw[hs];split
  ·rename_i e;subst e;exact ha
  ·rfl
 refine {h with pcs:=fun j=> ?_,tick:=fun j hj=> ?_,hold:=fun j hj=> ?_,inj:=fun j k hj hk e=> ?_,all:=fun t t0 t1=> ?_,rng:=fun j=> ?r}
 case r=>rw[hA];exact h.rng j
 ·rw[hs];split
  ·exact .inr (.inr h2)
  ·exact h.pcs j
 ·rw[hA];exact h.tick j ((hh j).1 hj)
 ·rw[hs]at hj⊢;split at hj
  ·rename_i e;rw[if_pos e];exact hS
  ·rename_i e;rw[if_neg e];exact h.hold j hj
 ·rw[hA,hA]at e;exact h.inj j k ((hh j).1 hj) ((hh k).1 hk) e
 ·obtain⟨k,k1,k2⟩:=h.all t t0 t1
  exact⟨k,(hh k).2 k1,by rw[hA];exact k2⟩
theorem Inv.takes {P:Par}{σ:Ar}{sp sp':List Sp}{S T:Nat}(h:Inv P σ sp S T)(i:Int)(s':Sp)(hs:∀j,spOf sp' j=if j=i then s' else spOf sp j)(h0:¬inq (spOf sp i))(h1:s'.pc=2)(ha:s'.a=T):Inv P (σ.op 5 P.next true (T+1)) sp' S (T+1):=by
 have hg:=fun q=>get_op σ h.hl 5 P.next ((T:Int)+1) true q;simp only[h.hasN,true_and]at hg;have h2:inq s':= .inl h1;refine {p1:=h.p1,p2:=h.p2,n1:=h.n1,le:=by have:=h.le;omega,hl:= ?_,n2:= ?_,gT:= ?_,srv:= ?_,low:= ?_,pcs:=fun j=> ?_,tick:=fun j hj=> ?_,hold:=fun j hj=> ?_,inj:=fun j k hj hk e=> ?_,all:=fun t t0 t1=> ?_,rng:=fun j=> ?r}
 case r=>
  have hr:=h.rng j;rw[hs];split
  ·rw[ha];have:=h.rng i;omega
  ·omega
 ·rw[op_t,op_len];exact h.hl
 ·rw[op_t];exact h.n2
 ·rw[hg,if_pos rfl];simp
 ·obtain⟨x,x0,x1,e⟩:=place_in h.p1 S
  have:=h.srv;rw[hg,if_neg (by rw[e];omega)];exact this
 ·intro x x0 x1
  rw[hg,if_neg (by omega)];exact h.low x x0 x1
 ·rw[hs];split
  ·exact .inr (.inr h2)
  ·exact h.pcs j
 ·rw[hs]at hj⊢;split at hj
  ·rename_i e;rw[if_pos e,ha];have:=h.le;omega
  ·rename_i e;rw[if_neg e];have:=h.tick j hj;omega
 ·rw[hs]at hj⊢;split at hj
  ·omega
  ·rename_i e;rw[if_neg e];exact h.hold j hj
 ·rw[hs]at hj hk e;rw[hs k]at e
  split at hj
  ·split at hk
   ·omega
   ·rename_i e1 e2
    rw[if_pos e1,if_neg e2,ha]at e;have:=h.tick k hk;omega
  ·split at hk
   ·rename_i e1 e2
    rw[if_neg e1,if_pos e2,ha]at e;have:=h.tick j hj;omega
   ·rename_i e1 e2
    rw[if_neg e1,if_neg e2]at e;exact h.inj j k hj hk e
 ·by_cases e:t=T
  ·exact⟨i,by rw[hs,if_pos rfl];exact⟨h2,by rw[ha,e]⟩⟩
  ·obtain⟨k,k1,k2⟩:=h.all t t0 (by omega)
   refine⟨k,?_⟩;have:k≠i:=fun e=>h0 (e▸k1);rw[hs,if_neg this];exact⟨k1,k2⟩
theorem Inv.passes {P:Par}{σ:Ar}{sp sp':List Sp}{S T:Nat}(h:Inv P σ sp S T)(i:Int)(s':Sp)(hs:∀j,spOf sp' j=if j=i then s' else spOf sp j)(h0:(spOf sp i).pc=10∨(spOf sp i).pc=11)(h1:s'.pc=0)(ha:s'.a=(spOf sp i).a):Inv P (σ.op 2 (place P ((S:Int)+1)) true (S+1)) sp' (S+1) T:=by
 have hg:=fun q=>get_op σ h.hl 2 (place P ((S:Int)+1)) ((S:Int)+1) true q;simp only[h.has,true_and]at hg;have hq:inq (spOf sp i):= .inr h0;have hS:=h.hold i h0;have hT:=h.tick i hq;have h2:¬inq s':=by unfold inq;omega
 obtain⟨y,y0,y1,ey⟩:=place_in h.p1 ((S:Int)+1);refine {p1:=h.p1,p2:=h.p2,n1:=h.n1,le:=by omega,hl:= ?_,n2:= ?_,gT:= ?_,srv:= ?_,low:= ?_,pcs:=fun j=> ?_,tick:=fun j hj=> ?_,hold:=fun j hj=> ?_,inj:=fun j k hj hk e=> ?_,all:=fun t t0 t1=> ?_,rng:=fun j=> ?r}
 case r=>
  have hr:=h.rng j;rw[hs];split
  ·rw[ha];have:=h.rng i;omega
  ·omega
 ·rw[op_t,op_len];exact h.hl
 ·rw[op_t];exact h.n2
 ·rw[hg,if_neg (by rw[ey];omega)];exact h.gT
 ·rw[hg,if_pos (by simp)];simp<;>omega
 ·intro x x0 x1
  rw[hg];have:=h.low x x0 x1;split<;>omega
 ·rw[hs];split
  ·exact .inl h1
  ·exact h.pcs j
 ·rw[hs]at hj⊢;split at hj
  ·exact absurd hj h2
  ·rename_i e
   rw[if_neg e];have h3:=h.tick j hj;have h4:(spOf sp j).a≠(spOf sp i).a:=fun e'=>e (h.inj j i hj hq e');omega
 ·rw[hs]at hj⊢;split at hj
  ·omega
  ·rename_i e
   exact absurd (h.inj j i (.inr hj) hq (by rw[h.hold j hj,hS])) e
 ·rw[hs]at hj hk e;rw[hs k]at e
  split at hj
  ·exact absurd hj h2
  ·split at hk
   ·exact absurd hk h2
   ·rename_i e1 e2
    rw[if_neg e1,if_neg e2]at e;exact h.inj j k hj hk e
 ·obtain⟨k,k1,k2⟩:=h.all t (by omega) t1
  refine⟨k,?_⟩;have:k≠i:=fun e=>by subst e;omega
  rw[hs,if_neg this];exact⟨k1,k2⟩
theorem Inv.served {P:Par}{σ:Ar}{sp:List Sp}{S T:Nat}(h:Inv P σ sp S T)(i:Int)(h0:inq (spOf sp i))(h1:σ.get (place P (spOf sp i).a)=(spOf sp i).a):(spOf sp i).a=S:=by
 obtain⟨x,x0,x1,e⟩:=place_in h.p1 (spOf sp i).a;have:=h.low x x0 x1;rw[e]at h1;have:=h.tick i h0;omega
theorem step_inv {P:Par}{σ:Ar}{sp:List Sp}{S T:Nat}(h:Inv P σ sp S T)(i:Int):∃S' T',T'≤T+1∧Inv P (stepP P σ sp i).2.1 (stepP P σ sp i).2.2 S' T':=by
 unfold stepP;by_cases h1:(spOf sp i).pc=1
 ·rw[if_pos h1]
  obtain⟨i0,i1⟩:=spOf_range (sp:=sp) (i:=i) (by omega);refine⟨S,T+1,Nat.le_refl _,?_⟩;have:=h.takes i _ (spOf_set i0 i1 {spOf sp i with pc:=2,a:=σ.get P.next}) (by unfold inq;omega) rfl h.gT;rw[←h.gT]at this;exact this
 rw[if_neg h1];by_cases h2:(spOf sp i).pc=2
 ·rw[if_pos h2]
  obtain⟨i0,i1⟩:=spOf_range (sp:=sp) (i:=i) (by omega);refine⟨S,T,Nat.le_succ _,?_⟩;by_cases h3:σ.get (place P (spOf sp i).a)=(spOf sp i).a
  ·simp only[h3,if_true]
   exact(h.keeps i _ (spOf_set i0 i1 {spOf sp i with pc:=10}) (.inl h2) (.inl rfl) rfl (h.served i (.inl h2) h3)).read _ _
  ·simp only[h3,if_false]
   exact h.read _ _
 rw[if_neg h2];by_cases h3:(spOf sp i).pc=11
 ·rw[if_pos h3]
  obtain⟨i0,i1⟩:=spOf_range (sp:=sp) (i:=i) (by omega);refine⟨S+1,T,Nat.le_succ _,?_⟩;have:=h.passes i _ (spOf_set i0 i1 {spOf sp i with pc:=0}) (.inr h3) rfl rfl;have e:=h.hold i (.inr h3);rw[←e]at this;exact this
 rw[if_neg h3];exact⟨S,T,Nat.le_succ _,h⟩
theorem do_inv {P:Par}{σ:Ar}{sp:List Sp}{S T:Nat}(h:Inv P σ sp S T)(kd i:Int):∃S' T',T'≤T+1∧Inv P (doP P σ sp kd i).2.1 (doP P σ sp kd i).2.2 S' T':=by
 unfold doP;split
 ·exact step_inv h i
 split
 ·refine⟨S,T,Nat.le_succ _,?_⟩
  cases ht:turnB sp i 0
  ·simp only[turn_no 1 ht];exact h
  ·have hp:=(turn_true ht).2
   exact h.idle i _ (spOf_turn 1 ht) (by unfold inq;omega) (.inr rfl) rfl
 split
 ·refine⟨S,T,Nat.le_succ _,?_⟩
  cases ht:turnB sp i 10
  ·simp only[turn_no 11 ht];exact h
  ·have hp:=(turn_true ht).2
   exact h.keeps i _ (spOf_turn 11 ht) (.inr (.inl hp)) (.inr rfl) rfl (h.hold i (.inl hp))
 split
 ·refine⟨S,T,Nat.le_succ _,?_⟩
  unfold aloneP;split
  ·exact h.read _ _
  ·exact h
 ·exact⟨S,T,Nat.le_succ _,h⟩
theorem zero_spot (n:Nat)(i:Int):spOf (List.replicate n sp0) i=sp0:=by
 unfold spOf;split
 ·simp[List.getD_eq_getElem?_getD,List.getElem?_replicate]
  split<;>rfl
 ·rfl
end Go.Proofs.YtfmiioddhpkdkaaGreat.Tk
namespace Go.Proofs.YtfmiioddhpkdkaaGreat.Tk
open Go.RowKit Ara Lok
theorem step_no {P:Par}{σ:Ar}{sp:List Sp}{i:Int}(h1:(spOf sp i).pc≠1)(h2:(spOf sp i).pc≠2)(h3:(spOf sp i).pc≠11):stepP P σ sp i=(false,σ,sp):=by
 unfold stepP;rw[if_neg h1,if_neg h2,if_neg h3]
theorem do_len (P:Par)(σ:Ar)(sp:List Sp)(kd i:Int):(doP P σ sp kd i).2.2.length=sp.length:=by
 unfold doP;split
 ·unfold stepP
  split
  ·simp
  split
  ·simp only;split<;>simp
  split
  ·simp
  ·rfl
 split
 ·exact turnS_len _ _ _ _
 split
 ·exact turnS_len _ _ _ _
 split<;>rfl
theorem do_ops (P:Par)(σ:Ar)(sp:List Sp)(kd i:Int):(doP P σ sp kd i).2.1.ops≤σ.ops+1∧σ.ops≤(doP P σ sp kd i).2.1.ops:=by
 have h:∀(kd p v:Int) (wr:Bool),(σ.op kd p wr v).ops≤σ.ops+1∧σ.ops≤(σ.op kd p wr v).ops:=by
  intro kd p v wr;rw[op_ops];split<;>omega
 unfold doP;split
 ·unfold stepP
  split
  ·exact h _ _ _ _
  split
  ·exact h _ _ _ _
  split
  ·exact h _ _ _ _
  ·exact⟨Nat.le_succ _,Nat.le_refl _⟩
 split
 ·exact⟨Nat.le_succ _,Nat.le_refl _⟩
 split
 ·exact⟨Nat.le_succ _,Nat.le_refl _⟩
 split
 ·unfold aloneP
  split
  ·exact h _ _ _ _
  ·exact⟨Nat.le_succ _,Nat.le_refl _⟩
 ·exact⟨Nat.le_succ _,Nat.le_refl _⟩
end Go.Proofs.YtfmiioddhpkdkaaGreat.Tk
