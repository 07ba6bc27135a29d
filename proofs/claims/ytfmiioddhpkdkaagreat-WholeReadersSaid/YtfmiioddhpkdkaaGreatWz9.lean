/- Merged texts: Mc5, PtP, Pt1, Pt2, Pt3, Pt4, Pt5. -/
import Derived.Test.YtfmiioddhpkdkaaGreatWz8
import Derived.Deep.RegionHeld3
set_option linter.unusedVariables false
set_option linter.unusedSimpArgs false
set_option maxRecDepth 100000
set_option maxHeartbeats 8000000
namespace Go.Proofs.YtfmiioddhpkdkaaGreat.Mc
open Go.RowKit Ara Lok
theorem infoSp:(Tryz.prog.info? 134).map (fun i=>(i.zero,i.size,i.bytes))=some (some (.agg #[.int .i64 0,.int .i64 0,.int .i64 0,.int .i64 0]),4,32):=by kernel_rfl
def zeroS (n:Nat):List Sp:=List.replicate n sp0
theorem zeroS_flat (n:Nat):((List.replicate n ((Value.agg #[.int .i64 0,.int .i64 0,.int .i64 0,.int .i64 0]).cells.toList)).flatten).toArray=((zeroS n).flatMap decSp).toArray:=by
 congr 1
 induction n with
 |zero=>rfl
 |succ n ih=>rw[List.replicate_succ,List.flatten_cons,ih,zeroS,zeroS,List.replicate_succ,List.flatMap_cons];rfl
theorem make_spots (n:Nat)(h:n≤65536)(W:World):(Instr.makeSlice 173 (.int .i64 (n:Int)) (.int .i64 (n:Int))).run Tryz.prog W= .ok (.slice (some ⟨W.heap.size,0,none⟩) n n) (W.alloc (.cells ((zeroS n).flatMap decSp).toArray 134)):=by
 rw[run_make_rows (P:=Tryz.prog) 173 134 (.agg #[.int .i64 0,.int .i64 0,.int .i64 0,.int .i64 0]) 4 32 Tryz.underlying173 infoSp rfl .i64 .i64 n (by omega) (by omega) W,zeroS_flat]
theorem spAt_new (W:World)(n:Nat):SpAt (W.alloc (.cells ((zeroS n).flatMap decSp).toArray 134)) W.heap.size (zeroS n):=
 ⟨_,blk_new _ _,by rw[List.take_of_length_le (by rw[flat_len decSp_len];omega)]⟩
theorem new_lk (ga ha:Nat)(σ σ1:Ar)(w:World)(H:ArAt w ga ha σ)(hh:ha<w.heap.size)(n:Nat)(n1:1≤n)(n2:n≤32)(next:Int)(x1:1≤next)(x2:next≤4096)
 (ht:σ.take (1+2*(n:Int))=((next,0),σ1)) (ho:σ1.ops≤1000000):
 Calls Tryz.prog 99 #[.pointer (some ⟨ga,0,none⟩),.int .i64 (n:Int)] w fun e w'=>∃gl hs,e= .returned (.tuple #[.pointer (some ⟨gl,0,none⟩),.int .i64 0])∧LkAt w' gl ga ha hs ⟨next⟩ σ1 (zeroS n)∧w.heap.size≤gl∧w.heap.size≤hs∧Mod [ga,ha] w w':=by
 have HT:=take_any ga ha σ w H (1+2*(n:Int));rw[ht]at HT;replace HT:=Lib.hid HT;have hmk:=fun W=>make_spots n (by omega) W;have hga:=H.lt;have i1:(1:Int)≤(n:Int):=by omega
 have i2:(n:Int)≤32:=by omega
 have e1:IntKind.i64.wrap (2*(n:Int))=2*(n:Int):=IntWalk.i64_in _ (by omega);have e2:IntKind.i64.wrap (1+2*(n:Int))=1+2*(n:Int):=IntWalk.i64_in _ (by omega);clear H ht ho;go_enter Tryz.func99,Tryz.ntmps99;go_wp2_with fail;refine HT.out.mono ?_;rintro e w2 ⟨rfl,h2,hm2⟩;have H2:=Lib.hid h2;clear h2;have hz2:=hm2.size
 have hK:LkAt ((w2.alloc (.cells ((zeroS n).flatMap decSp).toArray 134)).alloc (.cells #[.pointer (some ⟨ga,0,none⟩),.int .i64 next,.slice (some ⟨w2.heap.size,0,none⟩) n n] 272)) (w2.heap.size+1) ga ha w2.heap.size ⟨next⟩ σ1 (zeroS n):=by
  have hb:=(below_new w2 (.cells ((zeroS n).flatMap decSp).toArray 134));have hb2:=below_new (w2.alloc (.cells ((zeroS n).flatMap decSp).toArray 134)) (.cells #[.pointer (some ⟨ga,0,none⟩),.int .i64 next,.slice (some ⟨w2.heap.size,0,none⟩) n n] 272);have hbl:=blk_new (w2.alloc (.cells ((zeroS n).flatMap decSp).toArray 134)) (.cells #[.pointer (some ⟨ga,0,none⟩),.int .i64 next,.slice (some ⟨w2.heap.size,0,none⟩) n n] 272);have hzl:(zeroS n).length=n:=by simp[zeroS]
  refine⟨(H2.out.step hb).step hb2,(spAt_new w2 n).mod (S:=[]) (Mod.of_below hb2) (by simp),by omega,⟨n,?_⟩,by omega,by omega,by omega,by omega,by omega⟩;rw[hzl];simpa using hbl
 have hmm:Mod [ga,ha] w ((w2.alloc (.cells ((zeroS n).flatMap decSp).toArray 134)).alloc (.cells #[.pointer (some ⟨ga,0,none⟩),.int .i64 next,.slice (some ⟨w2.heap.size,0,none⟩) n n] 272)):=(hm2.alloc _).alloc _;have HK:=Lib.hid hK;clear H2 hm2 hK;have e0:(w2.alloc (.cells ((zeroS n).flatMap decSp).toArray 134)).heap.size=w2.heap.size+1:=by simp
 go_wp2_with fail;go_ret2;exact⟨w2.heap.size+1,w2.heap.size,rfl,HK.out,by omega,hz2,hmm⟩
end Go.Proofs.YtfmiioddhpkdkaaGreat.Mc
namespace Go.Proofs.YtfmiioddhpkdkaaGreat.Pt
open Go.RowKit Ara Lok
structure Par where
 next:Int
 parts:Int
def place (P:Par)(t:Int):Int:=P.next+1+t%P.parts
def stepP (P:Par)(σ:Ar)(sp:List Sp)(i:Int):Bool×Ar×List Sp:=
 if(spOf sp i).pc=1 then(false,σ.op 5 P.next true (σ.get P.next+1),sp.set i.toNat {spOf sp i with pc:=2,a:=σ.get P.next})
 else if(spOf sp i).pc=2 then(σ.get (place P (spOf sp i).a)==(spOf sp i).a+1,σ.op 1 (place P (spOf sp i).a) false 0,if σ.get (place P (spOf sp i).a)=(spOf sp i).a+1 then sp.set i.toNat {spOf sp i with pc:=10}else sp)
 else if(spOf sp i).pc=11 then(true,σ.op 2 (place P ((spOf sp i).a+1)) true ((spOf sp i).a+2),sp.set i.toNat {spOf sp i with pc:=0})
 else(false,σ,sp)
def aloneP (P:Par)(σ:Ar)(sp:List Sp)(i:Int):Bool×Ar:=
 if(spOf sp i).pc=10 then(σ.get P.next==(spOf sp i).a+1,σ.op 1 P.next false 0)else(false,σ)
def doP (P:Par)(σ:Ar)(sp:List Sp)(kd i:Int):Bool×Ar×List Sp:=
 if kd=0 then stepP P σ sp i else if kd=1 then(turnB sp i 0,σ,turnS sp i 0 1)else if kd=2 then(turnB sp i 10,σ,turnS sp i 10 11)
 else if kd=3 then((aloneP P σ sp i).1,(aloneP P σ sp i).2,sp)else(false,σ,sp)
def inq (s:Sp):Prop:=s.pc=2∨s.pc=10∨s.pc=11
structure Inv (P:Par)(σ:Ar)(sp:List Sp)(S T:Nat):Prop where
 hl:σ.t≤σ.ws.length
 p1:1≤P.parts
 p2:P.parts≤32
 n1:1≤P.next
 n2:P.next+P.parts≤σ.t
 gT:σ.get P.next=T
 le:S≤T
 srv:σ.get (place P S)=S+1
 low:∀x:Int,0≤x→x<P.parts→σ.get (P.next+1+x)≤S+1
 pcs:∀i,(spOf sp i).pc=0∨(spOf sp i).pc=1∨inq (spOf sp i)
 tick:∀i,inq (spOf sp i)→(S:Int)≤(spOf sp i).a∧(spOf sp i).a<T
 hold:∀i,(spOf sp i).pc=10∨(spOf sp i).pc=11→(spOf sp i).a=S
 inj:∀i j,inq (spOf sp i)→inq (spOf sp j)→(spOf sp i).a=(spOf sp j).a→i=j
 all:∀t:Int,S≤t→t<T→∃i,inq (spOf sp i)∧(spOf sp i).a=t
 rng:∀i,0≤(spOf sp i).a∧(spOf sp i).a≤T
theorem place_in {P:Par}(h:1≤P.parts)(t:Int):∃x,0≤x∧x<P.parts∧place P t=P.next+1+x:=
 ⟨t%P.parts,Int.emod_nonneg _ (by omega),Int.emod_lt_of_pos _ (by omega),rfl⟩
theorem Inv.has {P:Par}{σ:Ar}{sp:List Sp}{S T:Nat}(h:Inv P σ sp S T)(t:Int):σ.has (place P t)=true:=by
 obtain⟨x,x0,x1,e⟩:=place_in h.p1 t;rw[e];have:=h.n1;have:=h.n2;simp[Ar.has];omega
theorem Inv.hasN {P:Par}{σ:Ar}{sp:List Sp}{S T:Nat}(h:Inv P σ sp S T):σ.has P.next=true:=by
 have:=h.n1;have:=h.n2;have:=h.p1;simp[Ar.has];omega
theorem Inv.read {P:Par}{σ:Ar}{sp:List Sp}{S T:Nat}(h:Inv P σ sp S T)(p v:Int):Inv P (σ.op 1 p false v) sp S T:=by
 refine {h with hl:= ?_,n2:= ?_,gT:= ?_,srv:= ?_,low:= ?_}
 ·rw[op_t,op_len];exact h.hl
 ·rw[op_t];exact h.n2
 ·rw[get_read σ h.hl];exact h.gT
 ·rw[get_read σ h.hl];exact h.srv
 ·intro x h0 h1
  rw[get_read σ h.hl];exact h.low x h0 h1
theorem Inv.idle {P:Par}{σ:Ar}{sp sp':List Sp}{S T:Nat}(h:Inv P σ sp S T)(i:Int)(s':Sp)(hs:∀j,spOf sp' j=if j=i then s' else spOf sp j)(h0:¬inq (spOf sp i))(h1:s'.pc=0∨s'.pc=1)(ha:s'.a=(spOf sp i).a):Inv P σ sp' S T:=by
 have h2:¬inq s':=by unfold inq;omega
 refine {h with pcs:=fun j=> ?_,tick:=fun j hj=> ?_,hold:=fun j hj=> ?_,inj:=fun j k hj hk e=> ?_,all:=fun t t0 t1=> ?_,rng:=fun j=> ?r}
 case r=>
  rw[hs];split
  ·rw[ha];exact h.rng i
  ·exact h.rng j
 ·rw[hs];split
  ·omega
  ·exact h.pcs j
 ·rw[hs]at hj⊢;split at hj
  ·exact absurd hj h2
  ·rename_i e;rw[if_neg e];exact h.tick j hj
 ·rw[hs]at hj⊢;split at hj
  ·omega
  ·rename_i e;rw[if_neg e];exact h.hold j hj
 ·rw[hs]at hj hk e;rw[hs k]at e
  split at hj
  ·exact absurd hj h2
  ·split at hk
   ·exact absurd hk h2
   ·rename_i e1 e2
    rw[if_neg e1,if_neg e2]at e;exact h.inj j k hj hk e
 ·obtain⟨k,k1,k2⟩:=h.all t t0 t1
  refine⟨k,?_⟩;have:k≠i:=fun e=>h0 (e▸k1);rw[hs,if_neg this];exact⟨k1,k2⟩
theorem Inv.keeps {P:Par}{σ:Ar}{sp sp':List Sp}{S T:Nat}(h:Inv P σ sp S T)(i:Int)(s':Sp)(hs:∀j,spOf sp' j=if j=i then s' else spOf sp j)(h0:inq (spOf sp i))(h1:s'.pc=10∨s'.pc=11)(ha:s'.a=(spOf sp i).a)(hS:s'.a=S):Inv P σ sp' S T:=by
 have h2:inq s':=by unfold inq;omega
 have hh:∀j,inq (spOf sp' j)↔inq (spOf sp j):=by
  intro j;rw[hs];split
  ·rename_i e;subst e;exact⟨fun _=>h0,fun _=>h2⟩
  ·exact Iff.rfl
 have hA:∀j,(spOf sp' j).a=(spOf sp j).a:=by
  intro j;rw[hs];split
  ·rename_i e;subst e;exact ha
  ·rfl
 refine {h with pcs:=fun j=> ?_,tick:=fun j hj=> ?_,hold:=fun j hj=> ?_,inj:=fun j k hj hk e=> ?_,all:=fun t t0 t1=> ?_,rng:=fun j=> ?r}
 case r=>rw[hA];exact h.rng j
 ·rw[hs];split
  ·exact .inr (.inr h2)
  ·exact h.pcs j
 ·rw[hA];exact h.tick j ((hh j).1 hj)
 ·rw[hs]at hj⊢;split at hj
  ·rename_i e;rw[if_pos e];exact hS
  ·rename_i e;rw[if_neg e];exact h.hold j hj
 ·rw[hA,hA]at e;exact h.inj j k ((hh j).1 hj) ((hh k).1 hk) e
 ·obtain⟨k,k1,k2⟩:=h.all t t0 t1
  exact⟨k,(hh k).2 k1,by rw[hA];exact k2⟩
theorem Inv.takes {P:Par}{σ:Ar}{sp sp':List Sp}{S T:Nat}(h:Inv P σ sp S T)(i:Int)(s':Sp)(hs:∀j,spOf sp' j=if j=i then s' else spOf sp j)(h0:¬inq (spOf sp i))(h1:s'.pc=2)(ha:s'.a=T):Inv P (σ.op 5 P.next true (T+1)) sp' S (T+1):=by
 have hg:=fun q=>get_op σ h.hl 5 P.next ((T:Int)+1) true q;simp only[h.hasN,true_and]at hg;have h2:inq s':= .inl h1;refine {p1:=h.p1,p2:=h.p2,n1:=h.n1,le:=by have:=h.le;omega,hl:= ?_,n2:= ?_,gT:= ?_,srv:= ?_,low:= ?_,pcs:=fun j=> ?_,tick:=fun j hj=> ?_,hold:=fun j hj=> ?_,inj:=fun j k hj hk e=> ?_,all:=fun t t0 t1=> ?_,rng:=fun j=> ?r}
 case r=>
  have hr:=h.rng j;rw[hs];split
  ·rw[ha];have:=h.rng i;omega
  ·omega
 ·rw[op_t,op_len];exact h.hl
 ·rw[op_t];exact h.n2
 ·rw[hg,if_pos rfl];simp
 ·obtain⟨x,x0,x1,e⟩:=place_in h.p1 S
  have:=h.srv;rw[hg,if_neg (by rw[e];omega)];exact this
 ·intro x x0 x1
  rw[hg,if_neg (by omega)];exact h.low x x0 x1
 ·rw[hs];split
  ·exact .inr (.inr h2)
  ·exact h.pcs j
 ·rw[hs]at hj⊢;split at hj
  ·rename_i e;rw[if_pos e,ha];have:=h.le;omega
  ·rename_i e;rw[if_neg e];have:=h.tick j hj;omega
 ·rw[hs]at hj⊢;split at hj
  ·omega
  ·rename_i e;rw[if_neg e];exact h.hold j hj
 ·rw[hs]at hj hk e;rw[hs k]at e
  split at hj
  ·split at hk
   ·omega
   ·rename_i e1 e2
    rw[if_pos e1,if_neg e2,ha]at e;have:=h.tick k hk;omega
  ·split at hk
   ·rename_i e1 e2
    rw[if_neg e1,if_pos e2,ha]at e;have:=h.tick j hj;omega
   ·rename_i e1 e2
    rw[if_neg e1,if_neg e2]at e;exact h.inj j k hj hk e
 ·by_cases e:t=T
  ·exact⟨i,by rw[hs,if_pos rfl];exact⟨h2,by rw[ha,e]⟩⟩
  ·obtain⟨k,k1,k2⟩:=h.all t t0 (by omega)
   refine⟨k,?_⟩;have:k≠i:=fun e=>h0 (e▸k1);rw[hs,if_neg this];exact⟨k1,k2⟩
theorem Inv.passes {P:Par}{σ:Ar}{sp sp':List Sp}{S T:Nat}(h:Inv P σ sp S T)(i:Int)(s':Sp)(hs:∀j,spOf sp' j=if j=i then s' else spOf sp j)(h0:(spOf sp i).pc=10∨(spOf sp i).pc=11)(h1:s'.pc=0)(ha:s'.a=(spOf sp i).a):Inv P (σ.op 2 (place P ((S:Int)+1)) true (S+2)) sp' (S+1) T:=by
 have hg:=fun q=>get_op σ h.hl 2 (place P ((S:Int)+1)) ((S:Int)+2) true q;simp only[h.has,true_and]at hg;have hq:inq (spOf sp i):= .inr h0;have hS:=h.hold i h0;have hT:=h.tick i hq;have h2:¬inq s':=by unfold inq;omega
 obtain⟨y,y0,y1,ey⟩:=place_in h.p1 ((S:Int)+1);refine {p1:=h.p1,p2:=h.p2,n1:=h.n1,le:=by omega,hl:= ?_,n2:= ?_,gT:= ?_,srv:= ?_,low:= ?_,pcs:=fun j=> ?_,tick:=fun j hj=> ?_,hold:=fun j hj=> ?_,inj:=fun j k hj hk e=> ?_,all:=fun t t0 t1=> ?_,rng:=fun j=> ?r}
 case r=>
  have hr:=h.rng j;rw[hs];split
  ·rw[ha];have:=h.rng i;omega
  ·omega
 ·rw[op_t,op_len];exact h.hl
 ·rw[op_t];exact h.n2
 ·rw[hg,if_neg (by rw[ey];omega)];exact h.gT
 ·rw[hg,if_pos (by simp)];simp;omega
 ·intro x x0 x1
  rw[hg];have:=h.low x x0 x1;split<;>omega
 ·rw[hs];split
  ·exact .inl h1
  ·exact h.pcs j
 ·rw[hs]at hj⊢;split at hj
  ·exact absurd hj h2
  ·rename_i e
   rw[if_neg e];have h3:=h.tick j hj;have h4:(spOf sp j).a≠(spOf sp i).a:=fun e'=>e (h.inj j i hj hq e');omega
 ·rw[hs]at hj⊢;split at hj
  ·omega
  ·rename_i e
   exact absurd (h.inj j i (.inr hj) hq (by rw[h.hold j hj,hS])) e
 ·rw[hs]at hj hk e;rw[hs k]at e
  split at hj
  ·exact absurd hj h2
  ·split at hk
   ·exact absurd hk h2
   ·rename_i e1 e2
    rw[if_neg e1,if_neg e2]at e;exact h.inj j k hj hk e
 ·obtain⟨k,k1,k2⟩:=h.all t (by omega) t1
  refine⟨k,?_⟩;have:k≠i:=fun e=>by subst e;omega
  rw[hs,if_neg this];exact⟨k1,k2⟩
theorem Inv.served {P:Par}{σ:Ar}{sp:List Sp}{S T:Nat}(h:Inv P σ sp S T)(i:Int)(h0:inq (spOf sp i))(h1:σ.get (place P (spOf sp i).a)=(spOf sp i).a+1):(spOf sp i).a=S:=by
 obtain⟨x,x0,x1,e⟩:=place_in h.p1 (spOf sp i).a;have:=h.low x x0 x1;rw[e]at h1;have:=h.tick i h0;omega
theorem step_inv {P:Par}{σ:Ar}{sp:List Sp}{S T:Nat}(h:Inv P σ sp S T)(i:Int):∃S' T',T'≤T+1∧Inv P (stepP P σ sp i).2.1 (stepP P σ sp i).2.2 S' T':=by
 unfold stepP;by_cases h1:(spOf sp i).pc=1
 ·rw[if_pos h1]
  obtain⟨i0,i1⟩:=spOf_range (sp:=sp) (i:=i) (by omega);refine⟨S,T+1,Nat.le_refl _,?_⟩;have:=h.takes i _ (spOf_set i0 i1 {spOf sp i with pc:=2,a:=σ.get P.next}) (by unfold inq;omega) rfl h.gT;rw[←h.gT]at this;exact this
 rw[if_neg h1];by_cases h2:(spOf sp i).pc=2
 ·rw[if_pos h2]
  obtain⟨i0,i1⟩:=spOf_range (sp:=sp) (i:=i) (by omega);refine⟨S,T,Nat.le_succ _,?_⟩;by_cases h3:σ.get (place P (spOf sp i).a)=(spOf sp i).a+1
  ·simp only[h3,if_true]
   exact(h.keeps i _ (spOf_set i0 i1 {spOf sp i with pc:=10}) (.inl h2) (.inl rfl) rfl (h.served i (.inl h2) h3)).read _ _
  ·simp only[h3,if_false]
   exact h.read _ _
 rw[if_neg h2];by_cases h3:(spOf sp i).pc=11
 ·rw[if_pos h3]
  obtain⟨i0,i1⟩:=spOf_range (sp:=sp) (i:=i) (by omega);refine⟨S+1,T,Nat.le_succ _,?_⟩;have:=h.passes i _ (spOf_set i0 i1 {spOf sp i with pc:=0}) (.inr h3) rfl rfl;have e:=h.hold i (.inr h3);rw[←e]at this;exact this
 rw[if_neg h3];exact⟨S,T,Nat.le_succ _,h⟩
theorem do_inv {P:Par}{σ:Ar}{sp:List Sp}{S T:Nat}(h:Inv P σ sp S T)(kd i:Int):∃S' T',T'≤T+1∧Inv P (doP P σ sp kd i).2.1 (doP P σ sp kd i).2.2 S' T':=by
 unfold doP;split
 ·exact step_inv h i
 split
 ·refine⟨S,T,Nat.le_succ _,?_⟩
  cases ht:turnB sp i 0
  ·simp only[turn_no 1 ht];exact h
  ·have hp:=(turn_true ht).2
   exact h.idle i _ (spOf_turn 1 ht) (by unfold inq;omega) (.inr rfl) rfl
 split
 ·refine⟨S,T,Nat.le_succ _,?_⟩
  cases ht:turnB sp i 10
  ·simp only[turn_no 11 ht];exact h
  ·have hp:=(turn_true ht).2
   exact h.keeps i _ (spOf_turn 11 ht) (.inr (.inl hp)) (.inr rfl) rfl (h.hold i (.inl hp))
 split
 ·refine⟨S,T,Nat.le_succ _,?_⟩
  unfold aloneP;split
  ·exact h.read _ _
  ·exact h
 ·exact⟨S,T,Nat.le_succ _,h⟩
theorem zero_spot (n:Nat)(i:Int):spOf (List.replicate n sp0) i=sp0:=by
 unfold spOf;split
 ·simp[List.getD_eq_getElem?_getD,List.getElem?_replicate]
  split<;>rfl
 ·rfl
end Go.Proofs.YtfmiioddhpkdkaaGreat.Pt
namespace Go.Proofs.YtfmiioddhpkdkaaGreat.Pt
open Go.RowKit Ara Lok
def LkAt (W:World)(gl ga ha hs:Nat)(P:Par)(σ:Ar)(sp:List Sp):Prop:=
 ArAt W ga ha σ∧SpAt W hs sp∧sp.length≤32∧(∃c:Nat,W.heap[gl]? =some (.cells #[.pointer (some ⟨ga,0,none⟩),.int .i64 P.next,.int .i64 P.parts,.slice (some ⟨hs,0,none⟩) sp.length c] 269 (0,0)))∧gl≠ga∧gl≠ha∧gl≠hs∧hs≠ga∧hs≠ha
theorem LkAt.mod {S:List Nat}{W W':World}{gl ga ha hs:Nat}{P:Par}{σ:Ar}{sp:List Sp}(k:LkAt W gl ga ha hs P σ sp)(hm:Mod S W W')(h1:gl∉S)(h2:ga∉S)(h3:ha∉S)(h4:hs∉S):LkAt W' gl ga ha hs P σ sp:=by
 obtain⟨k1,k2,k3,⟨c,k4⟩,k5⟩:=k;exact⟨k1.mod hm h2 h3,k2.mod hm h4,k3,⟨c,hm.blk k4 h1⟩,k5⟩
theorem LkAt.same {W W':World}{gl ga ha hs:Nat}{P:Par}{σ:Ar}{sp:List Sp}(k:LkAt W gl ga ha hs P σ sp)(hb:Below W.heap.size W W'):LkAt W' gl ga ha hs P σ sp:=
 k.mod (S:=[]) (Mod.of_below hb) (by simp) (by simp) (by simp) (by simp)
theorem LkAt.drewN {W:World}{gl ga ha hs:Nat}{P:Par}{σ:Ar}{sp:List Sp}(k:LkAt W gl ga ha hs P σ sp)(n:Nat):LkAt (W.drewN n) gl ga ha hs P σ sp:=k
theorem LkAt.arena {W W':World}{gl ga ha hs:Nat}{P:Par}{σ σ':Ar}{sp:List Sp}(k:LkAt W gl ga ha hs P σ sp)(ha':ArAt W' ga ha σ')(hm:Mod [ga,ha] W W'):LkAt W' gl ga ha hs P σ' sp:=by
 obtain⟨_,k2,k3,⟨c,k4⟩,d1,d2,d3,d4,d5⟩:=k;exact⟨ha',k2.mod hm (by simp;omega),k3,⟨c,hm.blk k4 (by simp;omega)⟩,d1,d2,d3,d4,d5⟩
theorem LkAt.spots {W W':World}{gl ga ha hs:Nat}{P:Par}{σ:Ar}{sp sp':List Sp}(k:LkAt W gl ga ha hs P σ sp)(hs':SpAt W' hs sp')(hm:Mod [hs] W W')(hl:sp'.length=sp.length):LkAt W' gl ga ha hs P σ sp':=by
 obtain⟨k1,_,k3,⟨c,k4⟩,d1,d2,d3,d4,d5⟩:=k;refine⟨k1.mod hm (by simp;omega) (by simp;omega),hs',by omega,⟨c,?_⟩,d1,d2,d3,d4,d5⟩;have:=hm.blk k4 (by simp;omega);rw[hl];exact this
theorem LkAt.heads {W:World}{gl ga ha hs:Nat}{P:Par}{σ:Ar}{sp:List Sp}(k:LkAt W gl ga ha hs P σ sp):(∃c:Nat,W.cell? ⟨gl,0,none⟩=some (.pointer (some ⟨ga,0,none⟩))∧W.cell? ⟨gl,1,none⟩=some (.int .i64 P.next)∧W.cell? ⟨gl,2,none⟩=some (.int .i64 P.parts)∧W.cell? ⟨gl,3,none⟩=some (.slice (some ⟨hs,0,none⟩) sp.length c))∧sp.length≤32:=by
 obtain⟨_,_,k3,⟨c,k4⟩,_⟩:=k;exact⟨⟨c,blk_cell k4 0 (by simp),blk_cell k4 1 (by simp),blk_cell k4 2 (by simp),blk_cell k4 3 (by simp)⟩,k3⟩
section
variable(gl ga ha hs:Nat)(P:Par)(σ:Ar)(sp:List Sp)(w:World)(H:LkAt w gl ga ha hs P σ sp)
include H
theorem slots_lk:Calls Tryz.prog 358 #[.pointer (some ⟨gl,0,none⟩)] w fun e w'=>e= .returned (.int .i64 sp.length)∧w'=w:=by
 obtain⟨⟨cc,q0,q1,q2,q3⟩,hl⟩:=H.heads;clear H;go_enter Tryz.func358,Tryz.ntmps358;go_wp2_with fail;go_ret;exact⟨rfl,rfl⟩
theorem spot_out_lk (i:Int)(hi:i<0∨(sp.length:Int)≤i):Calls Tryz.prog 364 #[.pointer (some ⟨gl,0,none⟩),.int .i64 i] w fun e w'=>e= .returned (.pointer none)∧w'=w:=by
 have HS:=Lib.hid (slots_lk gl ga ha hs P σ sp w H);obtain⟨⟨cc,q0,q1,q2,q3⟩,hl⟩:=H.heads;clear H;by_cases h0:i<0
 ·go_enter Tryz.func364,Tryz.ntmps364
  go_wp2_with fail;go_ret;exact⟨rfl,rfl⟩
 ·have h1:(sp.length:Int)≤i:=by omega
  go_enter Tryz.func364,Tryz.ntmps364;go_wp2_with fail;refine(HS.out).mono ?_;rintro e wx ⟨rfl,hwx⟩;obtain rfl:=hwx.symm;go_wp2_with fail;go_ret;exact⟨rfl,rfl⟩
theorem spot_in_lk (k:Nat)(hk:k<sp.length):Calls Tryz.prog 364 #[.pointer (some ⟨gl,0,none⟩),.int .i64 (k:Int)] w fun e w'=>e= .returned (.pointer (some ⟨hs,k*4,none⟩))∧w'=w:=by
 have HS:=Lib.hid (slots_lk gl ga ha hs P σ sp w H);obtain⟨⟨cc,q0,q1,q2,q3⟩,hl⟩:=H.heads;have h1:(k:Int)<(sp.length:Int):=by omega
 have h2:(0:Int)≤(k:Int):=by omega
 clear H;go_enter Tryz.func364,Tryz.ntmps364;go_wp2_with fail;refine(HS.out).mono ?_;rintro e wx ⟨rfl,hwx⟩;obtain rfl:=hwx.symm;go_wp2_with fail;go_ret;exact⟨rfl,rfl⟩
theorem Spot_lk (i:Int):Calls Tryz.prog 359 #[.pointer (some ⟨gl,0,none⟩),.int .i64 i] w fun e w'=>e= .returned (.agg #[.int .i64 (spOf sp i).pc,.int .i64 (spOf sp i).a,.int .i64 (spOf sp i).b,.int .i64 (spOf sp i).c])∧Below w.heap.size w w':=by
 by_cases hi:i<0∨(sp.length:Int)≤i
 ·rw[spOf_out hi]
  have HS:=Lib.hid (fun W K=>spot_out_lk gl ga ha hs P σ sp W K i hi);have HH:=Lib.hid (H.same (below_new w (.cells #[.int .i64 0,.int .i64 0,.int .i64 0,.int .i64 0] 134)));clear H hi;go_enter Tryz.func359,Tryz.ntmps359;go_wp2_with fail;refine(HS.out _ HH.out).mono ?_;rintro e wx ⟨rfl,hwx⟩;obtain rfl:=hwx.symm;go_wp2_with fail;exact bodyPost_ret (v:= .agg #[.int .i64 0,.int .i64 0,.int .i64 0,.int .i64 0]) (by simp[results,Tryz.results359,go_sem]) rfl ⟨rfl,(Below.refl _ _).alloc (Nat.le_refl _) _⟩
 ·obtain⟨k,rfl⟩:=Int.eq_ofNat_of_zero_le (show 0≤i by omega)
  have hk:k<sp.length:=by omega
  have HS:=Lib.hid (fun W K=>spot_in_lk gl ga ha hs P σ sp W K k hk);have HH:=Lib.hid (H.same (below_new w (.cells #[.int .i64 0,.int .i64 0,.int .i64 0,.int .i64 0] 134)));obtain⟨c0,c1,c2,c3,_⟩:=H.2.1.cells k hk;have hlt:=H.2.1.lt;have e0:=spOf_in hk;rw[e0];clear H hi e0;generalize sp[k]=s at*;obtain⟨xp,xa,xb,xc⟩:=s;simp only at c0 c1 c2 c3⊢;go_enter Tryz.func359,Tryz.ntmps359;go_wp2_with fail;refine(HS.out _ HH.out).mono ?_;rintro e wx ⟨rfl,hwx⟩;obtain rfl:=hwx.symm;go_wp2_with fail;exact bodyPost_ret (v:= .agg #[.int .i64 xp,.int .i64 xa,.int .i64 xb,.int .i64 xc]) (by simp[results,Tryz.results359,go_sem]) rfl ⟨rfl,(Below.refl _ _).alloc (Nat.le_refl _) _⟩
theorem turn_lk (i fr tO:Int):Calls Tryz.prog 363 #[.pointer (some ⟨gl,0,none⟩),.int .i64 i,.int .i64 fr,.int .i64 tO] w fun e w'=>e= .returned (.bool (turnB sp i fr))∧LkAt w' gl ga ha hs P σ (turnS sp i fr tO)∧Mod [hs] w w':=by
 by_cases hi:i<0∨(sp.length:Int)≤i
 ·rw[turn_out hi,turnS_out hi]
  have HS:=Lib.hid (spot_out_lk gl ga ha hs P σ sp w H i hi);have HH:=Lib.hid H;clear H hi;go_enter Tryz.func363,Tryz.ntmps363;go_wp2_with fail;refine(HS.out).mono ?_;rintro e wx ⟨rfl,hwx⟩;obtain rfl:=hwx.symm;go_wp2_with fail;go_ret;exact⟨rfl,HH.out,Mod.refl _ _⟩
 ·obtain⟨k,rfl⟩:=Int.eq_ofNat_of_zero_le (show 0≤i by omega)
  have hk:k<sp.length:=by omega
  have HS:=Lib.hid (spot_in_lk gl ga ha hs P σ sp w H k hk);have c0:=(H.2.1.cells k hk).1;have f0:=(H.2.1.cells k hk).2.2.2.2 (k*4);have HH:=Lib.hid H;have hm:Mod [hs] w (w.setCell ⟨hs,k*4,none⟩ (.int .i64 tO)):=(Mod.refl _ _).setCell (by simp) _;have HT:=Lib.hid (H.spots (H.2.1.setPc k hk tO) hm (by rw[List.length_set]));rw[turn_in hk,turnS_in hk];by_cases hp:sp[k].pc=fr
  ·rw[if_pos hp,beq_iff_eq.2 hp]
   rw[hp]at c0;have e1:=ibne_no (rfl:fr=fr);generalize sp.set k {sp[k]with pc:=tO}=sp2 at*;clear H hi hp hk;go_enter Tryz.func363,Tryz.ntmps363;go_wp2_with fail;refine(HS.out).mono ?_;rintro e wx ⟨rfl,hwx⟩;obtain rfl:=hwx.symm;go_wp2_with fail;go_ret;exact⟨rfl,HT.out,hm⟩
  ·rw[if_neg hp,beq_eq_false_iff_ne.2 hp]
   have e1:=ibne hp;generalize sp[k].pc=x at*;clear H hi hp HT hm hk f0;go_enter Tryz.func363,Tryz.ntmps363;go_wp2_with fail;refine(HS.out).mono ?_;rintro e wx ⟨rfl,hwx⟩;obtain rfl:=hwx.symm;go_wp2_with fail;go_ret;exact⟨rfl,HH.out,Mod.refl _ _⟩
theorem Ask_lk (i:Int):Calls Tryz.prog 356 #[.pointer (some ⟨gl,0,none⟩),.int .i64 i] w fun e w'=>e= .returned (.bool (turnB sp i 0))∧LkAt w' gl ga ha hs P σ (turnS sp i 0 1)∧Mod [hs] w w':=by
 have HT:=Lib.hid (turn_lk gl ga ha hs P σ sp w H i 0 1);clear H;generalize turnB sp i 0=b at*;generalize turnS sp i 0 1=sp2 at*;go_enter Tryz.func356,Tryz.ntmps356;go_wp2_with fail;refine HT.out.mono ?_;rintro e w2 ⟨rfl,h2,hm⟩;go_wp2_with fail;go_ret;exact⟨rfl,h2,hm⟩
theorem Leave_lk (i:Int):Calls Tryz.prog 357 #[.pointer (some ⟨gl,0,none⟩),.int .i64 i] w fun e w'=>e= .returned (.bool (turnB sp i 10))∧LkAt w' gl ga ha hs P σ (turnS sp i 10 11)∧Mod [hs] w w':=by
 have HT:=Lib.hid (turn_lk gl ga ha hs P σ sp w H i 10 11);clear H;generalize turnB sp i 10=b at*;generalize turnS sp i 10 11=sp2 at*;go_enter Tryz.func357,Tryz.ntmps357;go_wp2_with fail;refine HT.out.mono ?_;rintro e w2 ⟨rfl,h2,hm⟩;go_wp2_with fail;go_ret;exact⟨rfl,h2,hm⟩
end
end Go.Proofs.YtfmiioddhpkdkaaGreat.Pt
namespace Go.Proofs.YtfmiioddhpkdkaaGreat.Pt
open Go.RowKit Ara Lok
def POk (P:Par):Prop:=1≤P.parts∧P.parts≤32∧1≤P.next∧P.next≤4096
section
variable(gl ga ha hs:Nat)(P:Par)(σ:Ar)(sp:List Sp)(w:World)(H:LkAt w gl ga ha hs P σ sp)(hP:POk P)
include H hP
theorem place_lk (t:Int)(t0:0≤t)(t1:t≤2000000):Calls Tryz.prog 110 #[.pointer (some ⟨gl,0,none⟩),.int .i64 t] w fun e w'=>e= .returned (.int .i64 (place P t))∧∃n,w'=w.drewN n:=by
 obtain⟨⟨cc,q0,q1,q2,q3⟩,hl⟩:=H.heads;obtain⟨p1,p2,p3,p4⟩:=hP;unfold place;have m0:0≤t%P.parts:=Int.emod_nonneg _ (by omega);have m1:t%P.parts<P.parts:=Int.emod_lt_of_pos _ (by omega);have e0:t.tmod P.parts=t%P.parts:=Int.tmod_eq_emod_of_nonneg t0;have e1:IntKind.i64.wrap (P.next+1)=P.next+1:=IntWalk.i64_in _ (by omega);have e2:IntKind.i64.wrap (t%P.parts)=t%P.parts:=IntWalk.i64_in _ (by omega);have e3:IntKind.i64.wrap (P.next+1+t%P.parts)=P.next+1+t%P.parts:=IntWalk.i64_in _ (by omega);have e4:¬P.parts=0:=by omega
 have e5:(P.parts==0)=false:=ibeq_no e4;generalize t%P.parts=m at*;clear H;go_enter Tryz.func110,Tryz.ntmps110;go_wp2_with fail;go_quiet(fail);go_wp2_with fail;go_ret;exact⟨rfl,_,rfl⟩
theorem served_lk (ho:σ.ops≤1000000)(t:Int)(t0:0≤t)(t1:t≤1000000):Calls Tryz.prog 365 #[.pointer (some ⟨gl,0,none⟩),.int .i64 t] w fun e w'=>e= .returned (.bool (σ.get (place P t)==t+1))∧LkAt w' gl ga ha hs P (σ.op 1 (place P t) false 0) sp∧Mod [ga,ha] w w':=by
 obtain⟨⟨cc,q0,q1,q2,q3⟩,hl⟩:=H.heads;obtain⟨d1,d2,d3,d4,d5⟩:=H.2.2.2.2;have HC:=Lib.hid (fun n=>place_lk gl ga ha hs P σ sp (w.drewN n) H hP t t0 (by omega));have HL:=Lib.hid (fun W K=>load_any ga ha σ W (K:LkAt W gl ga ha hs P σ sp).1 ho (place P t));have HH:=Lib.hid H;have e1:IntKind.i64.wrap (t+1)=t+1:=IntWalk.i64_in _ (by omega);clear q1 q2 q3 H;generalize place P t=p at*;generalize σ.op 1 p false 0=σ2 at*;generalize σ.get p=x at*;go_enter Tryz.func365,Tryz.ntmps365;go_wp2_with fail
 go_region_held3(fun V=>V.cell? ⟨gl,0,none⟩=some (.pointer (some ⟨ga,0,none⟩)))
  (first|exact q0|exact k2)
  (first
   |(go_at_call 110;refine(HC.out 1).mono ?_;rintro e w1 ⟨rfl,n1,rfl⟩)
   |(go_at_call 105;refine(HL.out _ (HH.out.drewN _)).mono ?_;rintro e w2 ⟨rfl,ha2,hm2⟩;have k2:=keepM hm2 (show(w.drewN _).cell? _=_ from q0) (by simp;omega)))
 go_wp2_with fail;go_ret;exact⟨rfl,(HH.out.drewN _).arena ha2 hm2,((Mod.refl _ _).drewN _).trans hm2⟩
omit hP in
theorem last_lk (ho:σ.ops≤1000000)(t:Int)(t0:0≤t)(t1:t≤1000000):Calls Tryz.prog 362 #[.pointer (some ⟨gl,0,none⟩),.int .i64 t] w fun e w'=>e= .returned (.bool (σ.get P.next==t+1))∧LkAt w' gl ga ha hs P (σ.op 1 P.next false 0) sp∧Mod [ga,ha] w w':=by
 obtain⟨⟨cc,q0,q1,q2,q3⟩,hl⟩:=H.heads;obtain⟨d1,d2,d3,d4,d5⟩:=H.2.2.2.2;have HL:=Lib.hid (fun W K=>load_any ga ha σ W (K:LkAt W gl ga ha hs P σ sp).1 ho P.next);have HH:=Lib.hid H;have e1:IntKind.i64.wrap (t+1)=t+1:=IntWalk.i64_in _ (by omega);clear q2 q3 H;generalize σ.op 1 P.next false 0=σ2 at*;generalize σ.get P.next=x at*;go_enter Tryz.func362,Tryz.ntmps362;go_wp2_with fail
 go_region_held3(fun V=>V.cell? ⟨gl,0,none⟩=some (.pointer (some ⟨ga,0,none⟩))∧V.cell? ⟨gl,1,none⟩=some (.int .i64 P.next))
  (first|exact⟨q0,q1⟩|exact k2)
  (first
   |(go_at_call 105;refine(HL.out _ (HH.out.drewN 1)).mono ?_;rintro e w2 ⟨rfl,ha2,hm2⟩;have k2:=And.intro (keepM hm2 (show(w.drewN _).cell? _=_ from q0) (by simp;omega)) (keepM hm2 (show(w.drewN _).cell? _=_ from q1) (by simp;omega))))
 go_wp2_with fail;go_ret;exact⟨rfl,(HH.out.drewN 1).arena ha2 hm2,((Mod.refl _ _).drewN _).trans hm2⟩
end
def SOk (sp:List Sp):Prop:=∀k (h:k<sp.length),0≤sp[k].a∧sp[k].a≤1000000
section
variable(gl ga ha hs:Nat)(P:Par)(σ:Ar)(sp:List Sp)(w:World)(H:LkAt w gl ga ha hs P σ sp)
include H
theorem asks_served (hP:POk P)(hS:SOk sp)(ho:σ.ops≤1000000)(i:Int):Calls Tryz.prog 361 #[.pointer (some ⟨gl,0,none⟩),.int .i64 i,.int .i64 2,.func (.func 365) #[] #[]] w fun e w'=>
 e= .returned (.bool (if(spOf sp i).pc=2 then σ.get (place P (spOf sp i).a)==(spOf sp i).a+1 else false))∧LkAt w' gl ga ha hs P (if(spOf sp i).pc=2 then σ.op 1 (place P (spOf sp i).a) false 0 else σ) sp∧Mod [ga,ha] w w':=by
 by_cases hi:i<0∨(sp.length:Int)≤i
 ·rw[spOf_out hi]
  have HS:=Lib.hid (spot_out_lk gl ga ha hs P σ sp w H i hi);have HH:=Lib.hid H;rw[if_neg (show¬sp0.pc=2 by decide),if_neg (show¬sp0.pc=2 by decide)];clear H hi;go_enter Tryz.func361,Tryz.ntmps361;go_wp2_with fail;refine(HS.out).mono ?_;rintro e wx ⟨rfl,hwx⟩;obtain rfl:=hwx.symm;go_wp2_with fail;go_ret;exact⟨rfl,HH.out,Mod.refl _ _⟩
 ·obtain⟨k,rfl⟩:=Int.eq_ofNat_of_zero_le (show 0≤i by omega)
  have hk:k<sp.length:=by omega
  have HS:=Lib.hid (spot_in_lk gl ga ha hs P σ sp w H k hk);have c0:=(H.2.1.cells k hk).1;have c1:=(H.2.1.cells k hk).2.1;obtain⟨a0,a1⟩:=hS k hk;have e0:=spOf_in hk;have HH:=Lib.hid H;rw[e0];by_cases hp:sp[k].pc=2
  ·have HC:=Lib.hid (fun W (K:LkAt W gl ga ha hs P σ sp)=>served_lk gl ga ha hs P σ sp W K hP ho sp[k].a a0 a1)
   rw[if_pos hp,if_pos hp];rw[hp]at c0;generalize sp[k].a=x at*;clear H hi e0 hk hp a0 a1;generalize(σ.get (place P x)==x+1)=y at*;generalize σ.op 1 (place P x) false 0=σ2 at*;go_enter Tryz.func361,Tryz.ntmps361;go_wp2_with fail;refine(HS.out).mono ?_;rintro e wx ⟨rfl,hwx⟩;obtain rfl:=hwx.symm;go_wp2_with fail;refine(HC.out _ HH.out).mono ?_;rintro e w2 ⟨rfl,h2,hm2⟩;go_wp2_with fail;go_ret;exact⟨rfl,h2,hm2⟩
  ·rw[if_neg hp,if_neg hp]
   have e1:=ibeq_no hp;generalize sp[k].pc=y at*;clear H hi e0 hk hp a0 a1 c1;go_enter Tryz.func361,Tryz.ntmps361;go_wp2_with fail;refine(HS.out).mono ?_;rintro e wx ⟨rfl,hwx⟩;obtain rfl:=hwx.symm;go_wp2_with fail;go_ret;exact⟨rfl,HH.out,Mod.refl _ _⟩
theorem asks_last (hS:SOk sp)(ho:σ.ops≤1000000)(i:Int):Calls Tryz.prog 361 #[.pointer (some ⟨gl,0,none⟩),.int .i64 i,.int .i64 10,.func (.func 362) #[] #[]] w fun e w'=>
 e= .returned (.bool (if(spOf sp i).pc=10 then σ.get P.next==(spOf sp i).a+1 else false))∧LkAt w' gl ga ha hs P (if(spOf sp i).pc=10 then σ.op 1 P.next false 0 else σ) sp∧Mod [ga,ha] w w':=by
 by_cases hi:i<0∨(sp.length:Int)≤i
 ·rw[spOf_out hi]
  have HS:=Lib.hid (spot_out_lk gl ga ha hs P σ sp w H i hi);have HH:=Lib.hid H;rw[if_neg (show¬sp0.pc=10 by decide),if_neg (show¬sp0.pc=10 by decide)];clear H hi;go_enter Tryz.func361,Tryz.ntmps361;go_wp2_with fail;refine(HS.out).mono ?_;rintro e wx ⟨rfl,hwx⟩;obtain rfl:=hwx.symm;go_wp2_with fail;go_ret;exact⟨rfl,HH.out,Mod.refl _ _⟩
 ·obtain⟨k,rfl⟩:=Int.eq_ofNat_of_zero_le (show 0≤i by omega)
  have hk:k<sp.length:=by omega
  have HS:=Lib.hid (spot_in_lk gl ga ha hs P σ sp w H k hk);have c0:=(H.2.1.cells k hk).1;have c1:=(H.2.1.cells k hk).2.1;obtain⟨a0,a1⟩:=hS k hk;have e0:=spOf_in hk;have HH:=Lib.hid H;rw[e0];by_cases hp:sp[k].pc=10
  ·have HC:=Lib.hid (fun W (K:LkAt W gl ga ha hs P σ sp)=>last_lk gl ga ha hs P σ sp W K ho sp[k].a a0 a1)
   rw[if_pos hp,if_pos hp];rw[hp]at c0;generalize sp[k].a=x at*;clear H hi e0 hk hp a0 a1;generalize(σ.get P.next==x+1)=y at*;generalize σ.op 1 P.next false 0=σ2 at*;go_enter Tryz.func361,Tryz.ntmps361;go_wp2_with fail;refine(HS.out).mono ?_;rintro e wx ⟨rfl,hwx⟩;obtain rfl:=hwx.symm;go_wp2_with fail;refine(HC.out _ HH.out).mono ?_;rintro e w2 ⟨rfl,h2,hm2⟩;go_wp2_with fail;go_ret;exact⟨rfl,h2,hm2⟩
  ·rw[if_neg hp,if_neg hp]
   have e1:=ibeq_no hp;generalize sp[k].pc=y at*;clear H hi e0 hk hp a0 a1 c1;go_enter Tryz.func361,Tryz.ntmps361;go_wp2_with fail;refine(HS.out).mono ?_;rintro e wx ⟨rfl,hwx⟩;obtain rfl:=hwx.symm;go_wp2_with fail;go_ret;exact⟨rfl,HH.out,Mod.refl _ _⟩
theorem alone_lk (hS:SOk sp)(ho:σ.ops≤1000000)(i:Int):Calls Tryz.prog 355 #[.pointer (some ⟨gl,0,none⟩),.int .i64 i] w fun e w'=>e= .returned (.bool (aloneP P σ sp i).1)∧LkAt w' gl ga ha hs P (aloneP P σ sp i).2 sp∧Mod [ga,ha] w w':=by
 have HC:=Lib.hid (asks_last gl ga ha hs P σ sp w H hS ho i);have e1:(aloneP P σ sp i).1=(if(spOf sp i).pc=10 then σ.get P.next==(spOf sp i).a+1 else false):=by unfold aloneP;split<;>rfl
 have e2:(aloneP P σ sp i).2=(if(spOf sp i).pc=10 then σ.op 1 P.next false 0 else σ):=by unfold aloneP;split<;>rfl
 rw[←e1,←e2]at HC;clear e1 e2 H;generalize(aloneP P σ sp i).1=b at*;generalize(aloneP P σ sp i).2=σ2 at*;go_enter Tryz.func355,Tryz.ntmps355;go_wp2_with fail;refine HC.out.mono ?_;rintro e w2 ⟨rfl,h2,hm⟩;go_wp2_with fail;go_ret;exact⟨rfl,h2,hm⟩
end
end Go.Proofs.YtfmiioddhpkdkaaGreat.Pt
namespace Go.Proofs.YtfmiioddhpkdkaaGreat.Pt
open Go.RowKit Ara Lok
theorem sfld0 (a b c d:Int)(W:World):(Instr.field 134 (.agg #[.int .i64 a,.int .i64 b,.int .i64 c,.int .i64 d]) 0).run Tryz.prog W= .ok (.int .i64 a) W:=by
 simp[Instr.field,run_underlying Tryz.underlying134,asAgg,go_sem]
theorem turn_setA (sp:List Sp)(k:Nat)(hk:k<sp.length)(fr tO x:Int)(hp:sp[k].pc=fr):turnS (sp.set k {sp[k]with a:=x}) (k:Int) fr tO=sp.set k {sp[k]with pc:=tO,a:=x}:=by
 have hk2:k<(sp.set k {sp[k]with a:=x}).length:=by rw[List.length_set];exact hk
 have e:(sp.set k {sp[k]with a:=x})[k]={sp[k]with a:=x}:=List.getElem_set_self hk2;rw[turnS_in hk2,e,if_pos hp,List.set_set]
def Num (P:Par)(σ:Ar)(sp:List Sp):Prop:=POk P∧SOk sp∧σ.ops≤1000000∧σ.has P.next=true∧0≤σ.get P.next∧σ.get P.next≤1000000
section
variable(gl ga ha hs:Nat)(P:Par)(σ:Ar)(sp:List Sp)(w:World)(H:LkAt w gl ga ha hs P σ sp)(hN:Num P σ sp)
include H hN
theorem step_one (k:Nat)(hk:k<sp.length)(hp:sp[k].pc=1):Calls Tryz.prog 360 #[.pointer (some ⟨gl,0,none⟩),.int .i64 (k:Int)] w fun e w'=>
 e= .returned (.bool false)∧LkAt w' gl ga ha hs P (σ.op 5 P.next true (σ.get P.next+1)) (sp.set k {sp[k]with pc:=2,a:=σ.get P.next})∧Mod [ga,ha,hs] w w':=by
 have HS:=Lib.hid (Spot_lk gl ga ha hs P σ sp w H (k:Int));rw[spOf_in hk,hp]at HS;generalize sp[k].a=ya at HS;generalize sp[k].b=yb at HS;generalize sp[k].c=yc at HS;obtain⟨hP,hS,ho,hh,g0,g1⟩:=hN;have q1:=fun a b c d W=>sfld0 a b c d W;have HH:=Lib.hid H;obtain⟨d1,d2,d3,d4,d5⟩:=H.2.2.2.2;have HA:=Lib.hid (fun W K=>add_any ga ha σ W K ho P.next 1);have ew:wrap64 (σ.get P.next+1)=σ.get P.next+1:=IntWalk.wrap64_in _ (by omega);rw[if_pos hh,ew]at HA;have HK:=Lib.hid hk;have HP:=Lib.hid hp;have e1:IntKind.i64.wrap (σ.get P.next+1-1)=σ.get P.next:=by rw[IntWalk.i64_in _ (by omega)];omega
 have e2:IntKind.i64.wrap (σ.get P.next)=σ.get P.next:=IntWalk.i64_in _ (by omega);have e3:(k:Int)<(sp.length:Int):=by omega
 have e4:(0:Int)≤(k:Int):=by omega
 have e5:(k:Int).toNat=k:=by omega
 have HFin:=Lib.hid (fun x=>turn_setA sp k hk 1 2 x hp);clear H hP hS ho hh ew hp;generalize σ.get P.next=x at*;generalize σ.op 5 P.next true (x+1)=σ2 at*;go_enter Tryz.func360,Tryz.ntmps360;go_wp2_with fail;refine HS.out.mono ?_;rintro e w1 ⟨rfl,hb1⟩;have hm1:Mod [ga,ha,hs] w w1:=Mod.of_below hb1;have H1:=Lib.hid (HH.out.same hb1);clear hb1;obtain⟨⟨cc,q0,r1,_,r3⟩,_⟩:=H1.out.heads;go_wp2_with fail
 go_region_held3(fun V=>V.cell? ⟨gl,0,none⟩=some (.pointer (some ⟨ga,0,none⟩))∧V.cell? ⟨gl,1,none⟩=some (.int .i64 P.next)∧V.cell? ⟨gl,3,none⟩=some (.slice (some ⟨hs,0,none⟩) sp.length cc))
  (first|exact⟨q0,r1,r3⟩|exact k2|exact k3)
  (first
   |(go_at_call 228;refine(HA.out _ (H1.out.drewN 1).1).mono ?_;rintro e w2 ⟨rfl,ha2,hm2⟩;have k2:=And.intro (keepM hm2 (show(w1.drewN _).cell? _=_ from q0) (by simp;omega)) (And.intro (keepM hm2 (show(w1.drewN _).cell? _=_ from r1) (by simp;omega)) (keepM hm2 (show(w1.drewN _).cell? _=_ from r3) (by simp;omega)));have H2:=(H1.out.drewN 1).arena ha2 hm2;have c1:=(H2.2.1.cells k hk).2.1;have f1:=(H2.2.1.cells k hk).2.2.2.2 (k*4+1);have k3:=And.intro (((World.cell?_setCell_far w2 ⟨hs,k*4+1,none⟩ ⟨gl,0,none⟩ (.int .i64 x) (by simp;omega))).trans k2.1) (And.intro (((World.cell?_setCell_far w2 ⟨hs,k*4+1,none⟩ ⟨gl,1,none⟩ (.int .i64 x) (by simp;omega))).trans k2.2.1) (((World.cell?_setCell_far w2 ⟨hs,k*4+1,none⟩ ⟨gl,3,none⟩ (.int .i64 x) (by simp;omega))).trans k2.2.2))))
 have hm3:Mod [hs] w2 (w2.setCell ⟨hs,k*4+1,none⟩ (.int .i64 x)):=(Mod.refl _ _).setCell (by simp) _;have H3:=Lib.hid (H2.spots (H2.2.1.setA k hk x) hm3 (by rw[List.length_set]));have hmm:Mod [ga,ha,hs] w (w2.setCell ⟨hs,k*4+1,none⟩ (.int .i64 x)):=((hm1.drewN 1).trans (hm2.sub (by simp))).trans (hm3.sub (by simp));clear k2 k3 H2 c1 f1 ha2 hm2 hm3 q0 r1 r3;generalize w2.setCell ⟨hs,k*4+1,none⟩ (.int .i64 x)=w3 at*;go_wp2_with fail;refine(turn_lk gl ga ha hs P σ2 _ w3 H3.out (k:Int) 1 2).mono ?_;rintro e w4 ⟨rfl,h4,hm4⟩;rw[HFin.out x]at h4;have H4:=Lib.hid h4;clear h4;go_wp2_with fail;go_ret;exact⟨rfl,H4.out,hmm.trans (hm4.sub (by simp))⟩
theorem step_two (k:Nat)(hk:k<sp.length)(hp:sp[k].pc=2):Calls Tryz.prog 360 #[.pointer (some ⟨gl,0,none⟩),.int .i64 (k:Int)] w fun e w'=>
 e= .returned (.bool (σ.get (place P sp[k].a)==sp[k].a+1))∧LkAt w' gl ga ha hs P (σ.op 1 (place P sp[k].a) false 0) (if σ.get (place P sp[k].a)=sp[k].a+1 then sp.set k {sp[k]with pc:=10}else sp)∧Mod [ga,ha,hs] w w':=by
 have HS:=Lib.hid (Spot_lk gl ga ha hs P σ sp w H (k:Int));rw[spOf_in hk,hp]at HS;have HA:=Lib.hid (fun W (K:LkAt W gl ga ha hs P σ sp)=>asks_served gl ga ha hs P σ sp W K hN.1 hN.2.1 hN.2.2.1 (k:Int));rw[spOf_in hk,if_pos hp,if_pos hp]at HA;have HT:=Lib.hid (fun W σ2 (K:LkAt W gl ga ha hs P σ2 sp)=>turn_lk gl ga ha hs P σ2 sp W K (k:Int) 2 10);rw[turn_in hk,turnS_in hk,if_pos hp,beq_iff_eq.2 hp]at HT;have q1:=fun a b c d W=>sfld0 a b c d W;have HH:=Lib.hid H;generalize sp[k].a=ya at*;generalize sp[k].b=yb at*;generalize sp[k].c=yc at*;generalize sp.set k {sp[k]with pc:=10}=sp2 at*;generalize σ.op 1 (place P ya) false 0=σ2 at*;clear H hN hp;by_cases hg:σ.get (place P ya)=ya+1
 ·rw[if_pos hg,beq_iff_eq.2 hg]
  rw[beq_iff_eq.2 hg]at HA;clear hg;go_enter Tryz.func360,Tryz.ntmps360;go_wp2_with fail;refine HS.out.mono ?_;rintro e w1 ⟨rfl,hb1⟩;have H1:=Lib.hid (HH.out.same hb1);have hm1:Mod [ga,ha,hs] w w1:=Mod.of_below hb1;clear hb1;go_wp2_with fail;refine(HA.out _ H1.out).mono ?_;rintro e w2 ⟨rfl,h2,hm2⟩;have H2:=Lib.hid h2;clear h2;go_wp2_with fail;refine(HT.out _ _ H2.out).mono ?_;rintro e w3 ⟨rfl,h3,hm3⟩;have H3:=Lib.hid h3;clear h3;go_wp2_with fail;go_ret;exact⟨rfl,H3.out,(hm1.trans (hm2.sub (by simp))).trans (hm3.sub (by simp))⟩
 ·rw[if_neg hg,beq_eq_false_iff_ne.2 hg]
  rw[beq_eq_false_iff_ne.2 hg]at HA;clear hg;go_enter Tryz.func360,Tryz.ntmps360;go_wp2_with fail;refine HS.out.mono ?_;rintro e w1 ⟨rfl,hb1⟩;have H1:=Lib.hid (HH.out.same hb1);have hm1:Mod [ga,ha,hs] w w1:=Mod.of_below hb1;clear hb1;go_wp2_with fail;refine(HA.out _ H1.out).mono ?_;rintro e w2 ⟨rfl,h2,hm2⟩;have H2:=Lib.hid h2;clear h2;go_wp2_with fail;go_ret;exact⟨rfl,H2.out,hm1.trans (hm2.sub (by simp))⟩
theorem step_out (k:Nat)(hk:k<sp.length)(hp:sp[k].pc=11):Calls Tryz.prog 360 #[.pointer (some ⟨gl,0,none⟩),.int .i64 (k:Int)] w fun e w'=>
 e= .returned (.bool true)∧LkAt w' gl ga ha hs P (σ.op 2 (place P (sp[k].a+1)) true (sp[k].a+2)) (sp.set k {sp[k]with pc:=0})∧Mod [ga,ha,hs] w w':=by
 have HS:=Lib.hid (Spot_lk gl ga ha hs P σ sp w H (k:Int));rw[spOf_in hk,hp]at HS;obtain⟨a0,a1⟩:=hN.2.1 k hk;have HPl:=Lib.hid (fun W (K:LkAt W gl ga ha hs P σ sp)=>place_lk gl ga ha hs P σ sp W K hN.1 (sp[k].a+1) (by omega) (by omega));have HSt:=Lib.hid (fun W (K:LkAt W gl ga ha hs P σ sp)=>store_any ga ha σ W K.1 hN.2.2.1 (place P (sp[k].a+1)) (sp[k].a+2));have HT:=Lib.hid (fun W σ2 (K:LkAt W gl ga ha hs P σ2 sp)=>turn_lk gl ga ha hs P σ2 sp W K (k:Int) 11 0);rw[turn_in hk,turnS_in hk,if_pos hp,beq_iff_eq.2 hp]at HT;have HC:=Lib.hid (fun W (K:LkAt W gl ga ha hs P σ sp)=>(K.2.1.cells k hk).2.1);have q1:=fun a b c d W=>sfld0 a b c d W;have HH:=Lib.hid H;obtain⟨d1,d2,d3,d4,d5⟩:=H.2.2.2.2;have e3:(k:Int)<(sp.length:Int):=by omega
 have e4:(0:Int)≤(k:Int):=by omega
 have e5:(k:Int).toNat=k:=by omega
 generalize sp[k].a=ya at*;generalize sp[k].b=yb at*;generalize sp[k].c=yc at*;generalize sp.set k {sp[k]with pc:=0}=sp2 at*;have e6:IntKind.i64.wrap (ya+1)=ya+1:=IntWalk.i64_in _ (by omega);have e7:IntKind.i64.wrap (ya+2)=ya+2:=IntWalk.i64_in _ (by omega);generalize place P (ya+1)=p at*;generalize σ.op 2 p true (ya+2)=σ2 at*;clear H hN hp hk a0 a1;go_enter Tryz.func360,Tryz.ntmps360;go_wp2_with fail;refine HS.out.mono ?_;rintro e w1 ⟨rfl,hb1⟩;have H1:=Lib.hid (HH.out.same hb1);have hm1:Mod [ga,ha,hs] w w1:=Mod.of_below hb1;clear hb1;obtain⟨⟨cc,q0,_,_,r3⟩,_⟩:=H1.out.heads;have c1:=HC.out _ H1.out;go_wp2_with fail
 go_region_held3(fun V=>V.cell? ⟨gl,0,none⟩=some (.pointer (some ⟨ga,0,none⟩))∧V.cell? ⟨gl,3,none⟩=some (.slice (some ⟨hs,0,none⟩) sp.length cc)∧V.cell? ⟨hs,k*4+1,none⟩=some (.int .i64 ya))
  (first|exact⟨q0,r3,c1⟩|exact k2)
  (first
   |(go_at_call 110;refine(HPl.out _ (H1.out.drewN 1)).mono ?_;rintro e w2 ⟨rfl,n2,rfl⟩)
   |(go_at_call 109;refine(HSt.out _ (H1.out.drewN _)).mono ?_;rintro e w2 ⟨rfl,ha2,hm2⟩;have k2:=And.intro (keepM hm2 (show(w1.drewN _).cell? _=_ from q0) (by simp;omega)) (And.intro (keepM hm2 (show(w1.drewN _).cell? _=_ from r3) (by simp;omega)) (keepM hm2 (show(w1.drewN _).cell? _=_ from c1) (by simp;omega)));have H2:=Lib.hid ((H1.out.drewN _).arena ha2 hm2)))
 have hmm:Mod [ga,ha,hs] w w2:=(hm1.drewN _).trans (hm2.sub (by simp));clear k2 ha2 hm2 q0 r3 c1;go_wp2_with fail;refine(HT.out _ _ H2.out).mono ?_;rintro e w3 ⟨rfl,h3,hm3⟩;have H3:=Lib.hid h3;clear h3;go_wp2_with fail;go_ret;exact⟨rfl,H3.out,hmm.trans (hm3.sub (by simp))⟩
omit hN in
theorem step_none (i:Int)(h1:(spOf sp i).pc≠1)(h2:(spOf sp i).pc≠2)(h3:(spOf sp i).pc≠11):Calls Tryz.prog 360 #[.pointer (some ⟨gl,0,none⟩),.int .i64 i] w fun e w'=>e= .returned (.bool false)∧LkAt w' gl ga ha hs P σ sp∧Mod [ga,ha,hs] w w':=by
 have HS:=Lib.hid (Spot_lk gl ga ha hs P σ sp w H i);have q1:=fun a b c d W=>sfld0 a b c d W;have HH:=Lib.hid H;have e1:=ibeq_no h1;have e2:=ibeq_no h2;have e3:=ibeq_no h3;generalize(spOf sp i).pc=yp at*;generalize(spOf sp i).a=ya at*;generalize(spOf sp i).b=yb at*;generalize(spOf sp i).c=yc at*;clear H h1 h2 h3;go_enter Tryz.func360,Tryz.ntmps360;go_wp2_with fail;refine HS.out.mono ?_;rintro e w1 ⟨rfl,hb1⟩;go_wp2_with fail;go_ret;exact⟨rfl,HH.out.same hb1,Mod.of_below hb1⟩
theorem step_lk (i:Int):Calls Tryz.prog 360 #[.pointer (some ⟨gl,0,none⟩),.int .i64 i] w fun e w'=>e= .returned (.bool (stepP P σ sp i).1)∧LkAt w' gl ga ha hs P (stepP P σ sp i).2.1 (stepP P σ sp i).2.2∧Mod [ga,ha,hs] w w':=by
 by_cases h:(spOf sp i).pc=1∨(spOf sp i).pc=2∨(spOf sp i).pc=11
 ·obtain⟨i0,i1⟩:=spOf_range (sp:=sp) (i:=i) (by omega)
  obtain⟨k,rfl⟩:=Int.eq_ofNat_of_zero_le i0;have hk:k<sp.length:=by omega
  unfold stepP;rw[spOf_in hk]at h⊢;simp only[Int.toNat_natCast];rcases h with h|h|h
  ·rw[if_pos h]
   exact step_one gl ga ha hs P σ sp w H hN k hk h
  ·rw[if_neg (by omega),if_pos h]
   exact step_two gl ga ha hs P σ sp w H hN k hk h
  ·rw[if_neg (by omega),if_neg (by omega),if_pos h]
   exact step_out gl ga ha hs P σ sp w H hN k hk h
 ·have e:stepP P σ sp i=(false,σ,sp):=by unfold stepP;rw[if_neg (by omega),if_neg (by omega),if_neg (by omega)]
  rw[e];exact step_none gl ga ha hs P σ sp w H i (by omega) (by omega) (by omega)
end
end Go.Proofs.YtfmiioddhpkdkaaGreat.Pt
namespace Go.Proofs.YtfmiioddhpkdkaaGreat.Pt
open Go.RowKit Ara Lok
end Go.Proofs.YtfmiioddhpkdkaaGreat.Pt
namespace Go.Proofs.YtfmiioddhpkdkaaGreat.Pt
open Go.RowKit Ara Lok
theorem may_yes (n:Int)(w:World)(h1:1≤n)(h2:n≤32):Calls Tryz.prog 108 #[.int .i64 n] w fun e w'=>e= .returned (.bool true)∧w'=w:=by
 have e1:decide ((1:Int)≤n)=true:=decide_eq_true h1;have e2:decide (n≤(32:Int))=true:=decide_eq_true h2;go_enter Tryz.func108,Tryz.ntmps108;go_wp2_with fail;go_ret;exact⟨rfl,rfl⟩
theorem infoSp:(Tryz.prog.info? 134).map (fun i=>(i.zero,i.size,i.bytes))=some (some (.agg #[.int .i64 0,.int .i64 0,.int .i64 0,.int .i64 0]),4,32):=by kernel_rfl
def zeroS (n:Nat):List Sp:=List.replicate n sp0
theorem zeroS_flat (n:Nat):((List.replicate n ((Value.agg #[.int .i64 0,.int .i64 0,.int .i64 0,.int .i64 0]).cells.toList)).flatten).toArray=((zeroS n).flatMap decSp).toArray:=by
 congr 1
 induction n with
 |zero=>rfl
 |succ n ih=>rw[List.replicate_succ,List.flatten_cons,ih,zeroS,zeroS,List.replicate_succ,List.flatMap_cons];rfl
theorem make_spots (n:Nat)(h:n≤65536)(W:World):(Instr.makeSlice 173 (.int .i64 (n:Int)) (.int .i64 (n:Int))).run Tryz.prog W= .ok (.slice (some ⟨W.heap.size,0,none⟩) n n) (W.alloc (.cells ((zeroS n).flatMap decSp).toArray 134)):=by
 rw[run_make_rows (P:=Tryz.prog) 173 134 (.agg #[.int .i64 0,.int .i64 0,.int .i64 0,.int .i64 0]) 4 32 Tryz.underlying173 infoSp rfl .i64 .i64 n (by omega) (by omega) W,zeroS_flat]
theorem spAt_new (W:World)(n:Nat):SpAt (W.alloc (.cells ((zeroS n).flatMap decSp).toArray 134)) W.heap.size (zeroS n):=
 ⟨_,blk_new _ _,by rw[List.take_of_length_le (by rw[flat_len decSp_len];omega)]⟩
theorem new_lk (ga ha:Nat)(σ σ1:Ar)(w:World)(H:ArAt w ga ha σ)(hh:ha<w.heap.size)(n:Nat)(n1:1≤n)(n2:n≤32)(parts next:Int)(p1:1≤parts)(p2:parts≤32)(x1:1≤next)(x2:next≤4096)
 (ht:σ.take (1+parts)=((next,0),σ1)) (ho:σ1.ops≤1000000):
 Calls Tryz.prog 98 #[.pointer (some ⟨ga,0,none⟩),.int .i64 (n:Int),.int .i64 parts] w fun e w'=>∃gl hs,e= .returned (.tuple #[.pointer (some ⟨gl,0,none⟩),.int .i64 0])∧LkAt w' gl ga ha hs ⟨next,parts⟩ (σ1.op 2 (place ⟨next,parts⟩ 0) true 1) (zeroS n)∧w.heap.size≤gl∧w.heap.size≤hs∧Mod [ga,ha] w w':=by
 have HT:=Lib.hid (take_any ga ha σ w H (1+parts));rw[ht]at HT;have hmk:=fun W=>make_spots n (by omega) W;have hga:=H.lt;have HM1:=Lib.hid (fun W=>may_yes (n:Int) W (by omega) (by omega));have HM2:=Lib.hid (fun W=>may_yes parts W p1 p2);have e1:IntKind.i64.wrap (1+parts)=1+parts:=IntWalk.i64_in _ (by omega);have i1:(1:Int)≤(n:Int):=by omega
 have i2:(n:Int)≤32:=by omega
 have HO:=Lib.hid ho;clear H ht ho;go_enter Tryz.func98,Tryz.ntmps98;go_wp2_with fail;refine(HM1.out _).mono ?_;rintro e wx ⟨rfl,hwx⟩;obtain rfl:=hwx.symm;go_wp2_with fail;refine(HM2.out _).mono ?_;rintro e wx ⟨rfl,hwx⟩;obtain rfl:=hwx.symm;go_wp2_with fail;refine HT.out.mono ?_;rintro e w2 ⟨rfl,h2,hm2⟩;have H2:=Lib.hid h2;clear h2;go_wp2_with fail;have hz2:=hm2.size
 have hK:LkAt ((w2.alloc (.cells ((zeroS n).flatMap decSp).toArray 134)).alloc (.cells #[.pointer (some ⟨ga,0,none⟩),.int .i64 next,.int .i64 parts,.slice (some ⟨w2.heap.size,0,none⟩) n n] 269)) (w2.heap.size+1) ga ha w2.heap.size ⟨next,parts⟩ σ1 (zeroS n):=by
  have hb:=(below_new w2 (.cells ((zeroS n).flatMap decSp).toArray 134));have hb2:=below_new (w2.alloc (.cells ((zeroS n).flatMap decSp).toArray 134)) (.cells #[.pointer (some ⟨ga,0,none⟩),.int .i64 next,.int .i64 parts,.slice (some ⟨w2.heap.size,0,none⟩) n n] 269);have hbl:=blk_new (w2.alloc (.cells ((zeroS n).flatMap decSp).toArray 134)) (.cells #[.pointer (some ⟨ga,0,none⟩),.int .i64 next,.int .i64 parts,.slice (some ⟨w2.heap.size,0,none⟩) n n] 269);have hzl:(zeroS n).length=n:=by simp[zeroS]
  refine⟨(H2.out.step hb).step hb2,(spAt_new w2 n).mod (S:=[]) (Mod.of_below hb2) (by simp),by omega,⟨n,?_⟩,by omega,by omega,by omega,by omega,by omega⟩;rw[hzl];simpa using hbl
 have hmm:Mod [ga,ha] w ((w2.alloc (.cells ((zeroS n).flatMap decSp).toArray 134)).alloc (.cells #[.pointer (some ⟨ga,0,none⟩),.int .i64 next,.int .i64 parts,.slice (some ⟨w2.heap.size,0,none⟩) n n] 269)):=(hm2.alloc _).alloc _;have hK:=Lib.hid hK;clear H2 hm2;generalize(w2.alloc (.cells ((zeroS n).flatMap decSp).toArray 134)).alloc (.cells #[.pointer (some ⟨ga,0,none⟩),.int .i64 next,.int .i64 parts,.slice (some ⟨w2.heap.size,0,none⟩) n n] 269)=w3 at*;have HF:=Lib.hid (show w.heap.size≤w2.heap.size+1∧w.heap.size≤w2.heap.size from⟨by omega,hz2⟩);clear hz2;generalize w2.heap.size+1=gl at*;generalize w2.heap.size=hs at*;refine(place_lk gl ga ha hs ⟨next,parts⟩ σ1 _ w3 hK.out ⟨p1,p2,x1,x2⟩ 0 (by omega) (by omega)).mono ?_;rintro e w4 ⟨rfl,m4,rfl⟩;go_wp2_with fail;refine(store_any ga ha σ1 _ (hK.out.drewN m4).1 HO.out (place ⟨next,parts⟩ 0) 1).mono ?_;rintro e w5 ⟨rfl,h5,hm5⟩;have hK5:=Lib.hid ((hK.out.drewN m4).arena h5 hm5);have hm6:Mod [ga,ha] w w5:=(hmm.drewN m4).trans hm5;clear h5 hm5 hmm hK;go_wp2_with fail;go_ret2;exact⟨gl,hs,rfl,hK5.out,HF.out.1,HF.out.2,hm6⟩
end Go.Proofs.YtfmiioddhpkdkaaGreat.Pt
