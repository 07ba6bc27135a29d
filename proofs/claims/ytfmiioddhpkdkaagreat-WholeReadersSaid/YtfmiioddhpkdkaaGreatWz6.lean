/- Merged texts: Ta2, McP, McO. -/
import Derived.Test.YtfmiioddhpkdkaaGreatWz5
import Derived.Deep.RegionHeld3
set_option linter.unusedVariables false
set_option linter.unusedSimpArgs false
set_option maxRecDepth 100000
set_option maxHeartbeats 8000000
namespace Go.Proofs.YtfmiioddhpkdkaaGreat.Ta
open Go.RowKit Ara Lok
section
variable(gl ga ha hs:Nat)(P:Par)(σ:Ar)(sp:List Sp)(w:World)(H:LkAt w gl ga ha hs P σ sp)(k:Nat)(hk:k<sp.length)
include H hk
theorem ask_yes (hp:sp[k].pc=0)(sp2:List Sp)(h2:sp2=sp.set k {sp[k]with pc:=1,a:=1}):Calls Tryz.prog 336 #[.pointer (some ⟨gl,0,none⟩),.int .i64 (k:Int)] w fun e w'=>e= .returned (.bool true)∧LkAt w' gl ga ha hs P σ sp2∧Mod [hs] w w':=by
 have HS:=Lib.hid (spot_in_lk gl ga ha hs P σ sp w H k hk);obtain⟨⟨cc,q0,q1,q2,q3⟩,hl32⟩:=H.heads;obtain⟨d1,d2,d3,d4,d5⟩:=H.2.2.2.2;obtain⟨s0,s1,s2,s3,sf⟩:=H.2.1.cells k hk;rw[hp]at s0;have HH:=Lib.hid H;have HP:=Lib.hid hp;have hu1:LkAt (w.setCell ⟨hs,k*4,none⟩ (.int .i64 1)) gl ga ha hs P σ (sp.set k {sp[k]with pc:=1}):=H.spots (H.2.1.setPc k hk 1) ((Mod.refl [hs] w).setCell (by simp) _) (by rw[List.length_set]);have hkk:k<(sp.set k {sp[k]with pc:=1}).length:=by rw[List.length_set];exact hk
 have hu2:=hu1.spots (hu1.2.1.setA k hkk 1) ((Mod.refl [hs] _).setCell (by simp) _) (by rw[List.length_set])
 have e:(sp.set k {sp[k]with pc:=1}).set k {(sp.set k {sp[k]with pc:=1})[k]with a:=1}=sp2:=by
  have e0:(sp.set k {sp[k]with pc:=1})[k]={sp[k]with pc:=1}:=List.getElem_set_self hkk;rw[e0,List.set_set,h2]
 rw[e]at hu2;have HU:=Lib.hid hu2;have f0:=sf (k*4);have f1:=sf (k*4+1);clear hu1 hu2 e h2 hkk H hp;go_enter Tryz.func336,Tryz.ntmps336;go_wp2_with fail;refine(HS.out).mono ?_;rintro e wx ⟨rfl,hwx⟩;obtain rfl:=hwx.symm;go_wp2_with fail;go_ret;exact⟨rfl,HU.out,((Mod.refl _ _).setCell (by simp) _).setCell (by simp) _⟩
theorem leave_yes (hp:sp[k].pc=10)(sp2:List Sp)(h2:sp2=sp.set k {sp[k]with pc:=11}):Calls Tryz.prog 337 #[.pointer (some ⟨gl,0,none⟩),.int .i64 (k:Int)] w fun e w'=>e= .returned (.bool true)∧LkAt w' gl ga ha hs P σ sp2∧Mod [hs] w w':=by
 have HS:=Lib.hid (spot_in_lk gl ga ha hs P σ sp w H k hk);obtain⟨⟨cc,q0,q1,q2,q3⟩,hl32⟩:=H.heads;obtain⟨d1,d2,d3,d4,d5⟩:=H.2.2.2.2;obtain⟨s0,s1,s2,s3,sf⟩:=H.2.1.cells k hk;rw[hp]at s0;have HH:=Lib.hid H;have HP:=Lib.hid hp;have HU:=Lib.hid (show LkAt (w.setCell ⟨hs,k*4,none⟩ (.int .i64 11)) gl ga ha hs P σ sp2 by rw[h2];exact H.spots (H.2.1.setPc k hk 11) ((Mod.refl [hs] w).setCell (by simp) _) (by rw[List.length_set]));have f0:=sf (k*4);clear h2 H hp;go_enter Tryz.func337,Tryz.ntmps337;go_wp2_with fail;refine(HS.out).mono ?_;rintro e wx ⟨rfl,hwx⟩;obtain rfl:=hwx.symm;go_wp2_with fail;go_ret;exact⟨rfl,HU.out,(Mod.refl _ _).setCell (by simp) _⟩
theorem step_one_yes (ho:σ.ops≤1000000)(hp:sp[k].pc=1)(hc:(σ.has P.word&&(σ.get P.word==0))=true)(sp2:List Sp)(h2:sp2=sp.set k {sp[k]with pc:=10}):Calls Tryz.prog 340 #[.pointer (some ⟨gl,0,none⟩),.int .i64 (k:Int)] w fun e w'=>e= .returned (.bool true)∧LkAt w' gl ga ha hs P (σ.op 4 P.word true ((k:Int)+1)) sp2∧Mod [ga,ha,hs] w w':=by
 have HSt:=fun W (K:LkAt W gl ga ha hs P σ sp)=>cas_any ga ha σ W K.1 ho P.word 0 ((k:Int)+1);rw[hc]at HSt;replace HSt:=Lib.hid HSt;have HS:=Lib.hid (spot_in_lk gl ga ha hs P σ sp w H k hk);obtain⟨⟨cc,q0,q1,q2,q3⟩,hl32⟩:=H.heads;obtain⟨d1,d2,d3,d4,d5⟩:=H.2.2.2.2;obtain⟨s0,s1,s2,s3,sf⟩:=H.2.1.cells k hk;rw[hp]at s0;have HH:=Lib.hid H;have HP:=Lib.hid hp;have HC:=Lib.hid (fun W (K:LkAt W gl ga ha hs P (σ.op 4 P.word true ((k:Int)+1)) sp)=>show W.cell? ⟨hs,k*4,none⟩=some (.int .i64 sp[k].pc)∧W.frozen? ⟨hs,k*4,none⟩=false∧LkAt (W.setCell ⟨hs,k*4,none⟩ (.int .i64 10)) gl ga ha hs P (σ.op 4 P.word true ((k:Int)+1)) sp2 from⟨(K.2.1.cells k hk).1,(K.2.1.cells k hk).2.2.2.2 _,by rw[h2];exact K.spots (K.2.1.setPc k hk 10) ((Mod.refl [hs] W).setCell (by simp) _) (by rw[List.length_set])⟩);have e1:IntKind.i64.wrap ((k:Int)+1)=(k:Int)+1:=IntWalk.i64_in _ (by omega);generalize σ.op 4 P.word true ((k:Int)+1)=σ2 at*;generalize sp[k].pc=xp at*;clear h2 H hp hc ho;go_enter Tryz.func340,Tryz.ntmps340;go_wp2_with fail;refine(HS.out).mono ?_;rintro e wx ⟨rfl,hwx⟩;obtain rfl:=hwx.symm;go_wp2_with fail
 go_region_held3(fun V=>V.cell? ⟨gl,0,none⟩=some (.pointer (some ⟨ga,0,none⟩))∧V.cell? ⟨gl,1,none⟩=some (.int .i64 P.word))
  (first|exact⟨q0,q1⟩|exact k2)
  (first
   |(go_at_call 202;refine(HSt.out _ (HH.out.drewN 1)).mono ?_;rintro e w2 ⟨rfl,ha2,hm2⟩;have k2:=And.intro (keepM hm2 (show(w.drewN 1).cell? _=_ from q0) (by simp;omega)) (keepM hm2 (show(w.drewN 1).cell? _=_ from q1) (by simp;omega));have H2:=Lib.hid ((HH.out.drewN 1).arena ha2 hm2)))
 have hmm:Mod [ga,ha,hs] w w2:=((Mod.refl _ _).drewN 1).trans (hm2.sub (by simp));clear k2 ha2 hm2;obtain⟨c0,f0,h3⟩:=HC.out _ H2.out;have H3:=Lib.hid h3;clear h3;go_wp2_with fail;go_ret;exact⟨rfl,H3.out,hmm.setCell (by simp) _⟩
theorem step_out (ho:σ.ops≤1000000)(hp:sp[k].pc=11)(sp2:List Sp)(h2:sp2=sp.set k {sp[k]with pc:=0}):Calls Tryz.prog 340 #[.pointer (some ⟨gl,0,none⟩),.int .i64 (k:Int)] w fun e w'=>e= .returned (.bool true)∧LkAt w' gl ga ha hs P (σ.op 2 P.word true 0) sp2∧Mod [ga,ha,hs] w w':=by
 have HSt:=Lib.hid (fun W (K:LkAt W gl ga ha hs P σ sp)=>store_any ga ha σ W K.1 ho P.word 0);have HS:=Lib.hid (spot_in_lk gl ga ha hs P σ sp w H k hk);obtain⟨⟨cc,q0,q1,q2,q3⟩,hl32⟩:=H.heads;obtain⟨d1,d2,d3,d4,d5⟩:=H.2.2.2.2;obtain⟨s0,s1,s2,s3,sf⟩:=H.2.1.cells k hk;rw[hp]at s0;have HH:=Lib.hid H;have HP:=Lib.hid hp;have HC:=Lib.hid (fun W (K:LkAt W gl ga ha hs P (σ.op 2 P.word true 0) sp)=>show W.cell? ⟨hs,k*4,none⟩=some (.int .i64 sp[k].pc)∧W.frozen? ⟨hs,k*4,none⟩=false∧LkAt (W.setCell ⟨hs,k*4,none⟩ (.int .i64 0)) gl ga ha hs P (σ.op 2 P.word true 0) sp2 from⟨(K.2.1.cells k hk).1,(K.2.1.cells k hk).2.2.2.2 _,by rw[h2];exact K.spots (K.2.1.setPc k hk 0) ((Mod.refl [hs] W).setCell (by simp) _) (by rw[List.length_set])⟩);generalize σ.op 2 P.word true 0=σ2 at*;generalize sp[k].pc=xp at*;clear h2 H hp ho;go_enter Tryz.func340,Tryz.ntmps340;go_wp2_with fail;refine(HS.out).mono ?_;rintro e wx ⟨rfl,hwx⟩;obtain rfl:=hwx.symm;go_wp2_with fail
 go_region_held3(fun V=>V.cell? ⟨gl,0,none⟩=some (.pointer (some ⟨ga,0,none⟩))∧V.cell? ⟨gl,1,none⟩=some (.int .i64 P.word))
  (first|exact⟨q0,q1⟩|exact k2)
  (first
   |(go_at_call 109;refine(HSt.out _ (HH.out.drewN 1)).mono ?_;rintro e w2 ⟨rfl,ha2,hm2⟩;have k2:=And.intro (keepM hm2 (show(w.drewN 1).cell? _=_ from q0) (by simp;omega)) (keepM hm2 (show(w.drewN 1).cell? _=_ from q1) (by simp;omega));have H2:=Lib.hid ((HH.out.drewN 1).arena ha2 hm2)))
 have hmm:Mod [ga,ha,hs] w w2:=((Mod.refl _ _).drewN 1).trans (hm2.sub (by simp));clear k2 ha2 hm2;obtain⟨c0,f0,h3⟩:=HC.out _ H2.out;have H3:=Lib.hid h3;clear h3;go_wp2_with fail;go_ret;exact⟨rfl,H3.out,hmm.setCell (by simp) _⟩
end
theorem infoSp:(Tryz.prog.info? 134).map (fun i=>(i.zero,i.size,i.bytes))=some (some (.agg #[.int .i64 0,.int .i64 0,.int .i64 0,.int .i64 0]),4,32):=by kernel_rfl
def zeroS (n:Nat):List Sp:=List.replicate n sp0
theorem zeroS_flat (n:Nat):((List.replicate n ((Value.agg #[.int .i64 0,.int .i64 0,.int .i64 0,.int .i64 0]).cells.toList)).flatten).toArray=((zeroS n).flatMap decSp).toArray:=by
 congr 1
 induction n with
 |zero=>rfl
 |succ n ih=>rw[List.replicate_succ,List.flatten_cons,ih,zeroS,zeroS,List.replicate_succ,List.flatMap_cons];rfl
theorem make_spots (n:Nat)(h:n≤65536)(W:World):(Instr.makeSlice 173 (.int .i64 (n:Int)) (.int .i64 (n:Int))).run Tryz.prog W= .ok (.slice (some ⟨W.heap.size,0,none⟩) n n) (W.alloc (.cells ((zeroS n).flatMap decSp).toArray 134)):=by
 rw[run_make_rows (P:=Tryz.prog) 173 134 (.agg #[.int .i64 0,.int .i64 0,.int .i64 0,.int .i64 0]) 4 32 Tryz.underlying173 infoSp rfl .i64 .i64 n (by omega) (by omega) W,zeroS_flat]
theorem spAt_new (W:World)(n:Nat):SpAt (W.alloc (.cells ((zeroS n).flatMap decSp).toArray 134)) W.heap.size (zeroS n):=
 ⟨_,blk_new _ _,by rw[List.take_of_length_le (by rw[flat_len decSp_len];omega)]⟩
theorem new_lk (ga ha:Nat)(σ σ1:Ar)(w:World)(H:ArAt w ga ha σ)(hh:ha<w.heap.size)(n:Nat)(n1:1≤n)(n2:n≤32)(most:Int)(m1:1≤most)(m2:most≤1024)(next:Int)
 (ht:σ.take 1=((next,0),σ1)):
 Calls Tryz.prog 96 #[.pointer (some ⟨ga,0,none⟩),.int .i64 (n:Int),.int .i64 most] w fun e w'=>∃gl hs,e= .returned (.tuple #[.pointer (some ⟨gl,0,none⟩),.int .i64 0])∧LkAt w' gl ga ha hs ⟨next,most⟩ σ1 (zeroS n)∧w.heap.size≤gl∧w.heap.size≤hs∧Mod [ga,ha] w w':=by
 have HT:=take_any ga ha σ w H 1;rw[ht]at HT;replace HT:=Lib.hid HT;have hmk:=fun W=>make_spots n (by omega) W;have hga:=H.lt;have i1:(1:Int)≤(n:Int):=by omega
 have i2:(n:Int)≤32:=by omega
 clear H ht;go_enter Tryz.func96,Tryz.ntmps96;go_wp2_with fail;refine HT.out.mono ?_;rintro e w2 ⟨rfl,h2,hm2⟩;have H2:=Lib.hid h2;clear h2;have hz2:=hm2.size
 have hK:LkAt ((w2.alloc (.cells ((zeroS n).flatMap decSp).toArray 134)).alloc (.cells #[.pointer (some ⟨ga,0,none⟩),.int .i64 next,.int .i64 most,.slice (some ⟨w2.heap.size,0,none⟩) n n] 263)) (w2.heap.size+1) ga ha w2.heap.size ⟨next,most⟩ σ1 (zeroS n):=by
  have hb:=(below_new w2 (.cells ((zeroS n).flatMap decSp).toArray 134));have hb2:=below_new (w2.alloc (.cells ((zeroS n).flatMap decSp).toArray 134)) (.cells #[.pointer (some ⟨ga,0,none⟩),.int .i64 next,.int .i64 most,.slice (some ⟨w2.heap.size,0,none⟩) n n] 263);have hbl:=blk_new (w2.alloc (.cells ((zeroS n).flatMap decSp).toArray 134)) (.cells #[.pointer (some ⟨ga,0,none⟩),.int .i64 next,.int .i64 most,.slice (some ⟨w2.heap.size,0,none⟩) n n] 263);have hzl:(zeroS n).length=n:=by simp[zeroS]
  refine⟨(H2.out.step hb).step hb2,(spAt_new w2 n).mod (S:=[]) (Mod.of_below hb2) (by simp),by omega,⟨n,?_⟩,by omega,by omega,by omega,by omega,by omega⟩;rw[hzl];simpa using hbl
 have hmm:Mod [ga,ha] w ((w2.alloc (.cells ((zeroS n).flatMap decSp).toArray 134)).alloc (.cells #[.pointer (some ⟨ga,0,none⟩),.int .i64 next,.int .i64 most,.slice (some ⟨w2.heap.size,0,none⟩) n n] 263)):=(hm2.alloc _).alloc _;have HK:=Lib.hid hK;clear H2 hm2 hK;have e0:(w2.alloc (.cells ((zeroS n).flatMap decSp).toArray 134)).heap.size=w2.heap.size+1:=by simp
 go_wp2_with fail;go_ret2;exact⟨w2.heap.size+1,w2.heap.size,rfl,HK.out,by omega,hz2,hmm⟩
end Go.Proofs.YtfmiioddhpkdkaaGreat.Ta
namespace Go.Proofs.YtfmiioddhpkdkaaGreat.Mc
open Go.RowKit Ara Lok
structure Par where
 tail:Int
def nx (P:Par)(x:Int):Int:=P.tail+2*x-1
def wt (P:Par)(x:Int):Int:=P.tail+2*x
def stepP (P:Par)(σ:Ar)(sp:List Sp)(i:Int):Bool×Ar×List Sp:=
 if(spOf sp i).pc=1 then(false,σ.op 2 (nx P (i+1)) true 0,sp.set i.toNat {spOf sp i with pc:=2})
 else if(spOf sp i).pc=2 then(false,σ.op 2 (wt P (i+1)) true 1,sp.set i.toNat {spOf sp i with pc:=3})
 else if(spOf sp i).pc=3 then(σ.get P.tail==0,σ.op 3 P.tail true (i+1),sp.set i.toNat {spOf sp i with pc:=if σ.get P.tail=0 then 10 else 4,a:=σ.get P.tail})
 else if(spOf sp i).pc=4 then(false,σ.op 2 (nx P (spOf sp i).a) true (i+1),sp.set i.toNat {spOf sp i with pc:=5})
 else if(spOf sp i).pc=5 then(σ.get (wt P (i+1))==0,σ.op 1 (wt P (i+1)) false 0,sp.set i.toNat {spOf sp i with pc:=if σ.get (wt P (i+1))=0 then 10 else 5})
 else if(spOf sp i).pc=11 then(false,σ.op 1 (nx P (i+1)) false 0,sp.set i.toNat {spOf sp i with pc:=if σ.get (nx P (i+1))=0 then 12 else 14,a:=σ.get (nx P (i+1))})
 else if(spOf sp i).pc=12 then(σ.has P.tail&&(σ.get P.tail==i+1),σ.op 4 P.tail (σ.has P.tail&&(σ.get P.tail==i+1)) 0,sp.set i.toNat {spOf sp i with pc:=if(σ.has P.tail&&(σ.get P.tail==i+1))=true then 0 else 13})
 else if(spOf sp i).pc=13 then(false,σ.op 1 (nx P (i+1)) false 0,sp.set i.toNat {spOf sp i with pc:=if σ.get (nx P (i+1))=0 then 13 else 14,a:=σ.get (nx P (i+1))})
 else if(spOf sp i).pc=14 then(true,σ.op 2 (wt P (spOf sp i).a) true 0,sp.set i.toNat {spOf sp i with pc:=0})
 else(false,σ,sp)
def aloneP (P:Par)(σ:Ar)(sp:List Sp)(i:Int):Bool×Ar:=
 if(spOf sp i).pc=10 then(σ.get (nx P (i+1))==0,σ.op 1 (nx P (i+1)) false 0)else(false,σ)
def doP (P:Par)(σ:Ar)(sp:List Sp)(kd i:Int):Bool×Ar×List Sp:=
 if kd=0 then stepP P σ sp i else if kd=1 then(turnB sp i 0,σ,turnS sp i 0 1)else if kd=2 then(turnB sp i 10,σ,turnS sp i 10 11)
 else if kd=3 then((aloneP P σ sp i).1,(aloneP P σ sp i).2,sp)else(false,σ,sp)
def outs (s:Sp):Prop:=s.pc=10∨s.pc=11∨s.pc=12∨s.pc=13∨s.pc=14
def inq (s:Sp):Prop:=s.pc=4∨s.pc=5∨outs s
def tailOf:List Int→Int
 |[]=>0
 |[i]=>i+1
 |_::j::q=>tailOf (j::q)
def Chain (P:Par)(σ:Ar)(sp:List Sp):List Int→Prop
 |[]=>True
 |[i]=>σ.get (nx P (i+1))=0
 |i::j::q=>(((spOf sp j).pc=4∧(spOf sp j).a=i+1∧σ.get (nx P (i+1))=0)∨((spOf sp j).pc=5∧σ.get (nx P (i+1))=j+1))∧σ.get (wt P (j+1))=1∧Chain P σ sp (j::q)
theorem Chain.same {P:Par}{σ σ':Ar}{sp sp':List Sp}{q:List Int}(h:Chain P σ sp q)(hs:∀j,j∈q.tail→spOf sp' j=spOf sp j)(hg:∀j,j∈q→σ'.get (nx P (j+1))=σ.get (nx P (j+1)))(hw:∀j,j∈q.tail→σ'.get (wt P (j+1))=σ.get (wt P (j+1))):Chain P σ' sp' q:=by
 induction q with
 |nil=>trivial
 |cons i q ih=>
  cases q with
  |nil=>show _=_;rw[hg i (by simp)];exact h
  |cons j q=>
   obtain⟨h1,h2,h3⟩:=h;refine⟨?_,by rw[hw j (by simp)];exact h2,ih h3 (fun k hk=>hs k (by simp at hk⊢;exact .inr hk)) (fun k hk=>hg k (by simp at hk⊢;exact .inr hk)) (fun k hk=>hw k (by simp at hk⊢;exact .inr hk))⟩;rw[hs j (by simp),hg i (by simp)];exact h1
theorem tailOf_push (q:List Int)(i:Int):tailOf (q++ [i])=i+1:=by
 induction q with
 |nil=>rfl
 |cons k q ih=>
  cases q with
  |nil=>rfl
  |cons j q=>exact ih
theorem tailOf_mem {q:List Int}(h:q≠ []):∃j,j∈q∧tailOf q=j+1:=by
 induction q with
 |nil=>exact absurd rfl h
 |cons k q ih=>
  cases q with
  |nil=>exact⟨k,by simp,rfl⟩
  |cons j q=>
   obtain⟨m,m1,m2⟩:=ih (by simp);exact⟨m,by simp at m1⊢;exact .inr m1,m2⟩
theorem Chain.push {P:Par}{σ:Ar}{sp:List Sp}{q:List Int}{i:Int}(h:Chain P σ sp q)(h0:q≠ [])(h4:(spOf sp i).pc=4)(ha:(spOf sp i).a=tailOf q)(hl:σ.get (nx P (i+1))=0)(hw:σ.get (wt P (i+1))=1):Chain P σ sp (q++ [i]):=by
 induction q with
 |nil=>exact absurd rfl h0
 |cons k q ih=>
  cases q with
  |nil=>exact⟨.inl ⟨h4,ha,h⟩,hw,hl⟩
  |cons j q=>exact⟨h.1,h.2.1,ih h.2.2 (by simp) ha⟩
theorem Chain.link {P:Par}{σ σ':Ar}{sp sp':List Sp}{q:List Int}{i:Int}(h:Chain P σ sp q)(hi:i∈q.tail)(hn:q.Nodup)(h4:(spOf sp i).pc=4)(h5:(spOf sp' i).pc=5)(hs:∀j,j≠i→spOf sp' j=spOf sp j)
 (hg:∀j,σ'.get (nx P (j+1))=if j+1=(spOf sp i).a then i+1 else σ.get (nx P (j+1))) (hw:∀j,σ'.get (wt P (j+1))=σ.get (wt P (j+1))):Chain P σ' sp' q:=by
 induction q with
 |nil=>simp at hi
 |cons k q ih=>
  cases q with
  |nil=>simp at hi
  |cons j q=>
   obtain⟨h1,h2,h3⟩:=h;rw[List.nodup_cons]at hn;by_cases e:j=i
   ·subst e
    rcases h1 with⟨_,ha,hz⟩|⟨h1,_⟩
    ·refine⟨.inr ⟨h5,by rw[hg,if_pos ha.symm]⟩,by rw[hw];exact h2,?_⟩
     have hn2:=(List.nodup_cons.1 hn.2).1;refine h3.same (fun m hm=>hs m (fun e=>hn2 (by simp at hm;rw[←e];exact hm))) (fun m hm=> ?_) (fun m _=>hw m);rw[hg,if_neg];intro e;have:m=k:=by omega
     subst this;exact hn.1 hm
    ·omega
   ·have hi2:i∈q:=by
     simp at hi;rcases hi with hi|hi
     ·exact absurd hi.symm e
     ·exact hi
    refine⟨?_,by rw[hw];exact h2,ih h3 hi2 hn.2⟩
    have hk:¬k+1=(spOf sp i).a:=by
     have key:∀(m:Int) (q:List Int),Chain P σ sp (m::q)→i∈q→∃p,p∈(m::q)∧(spOf sp i).a=p+1:=by
      intro m q
      induction q generalizing m with
      |nil=>intro _ h;simp at h
      |cons n q ihq=>
       intro hc hm;obtain⟨c1,_,c3⟩:=hc;by_cases en:n=i
       ·subst en
        rcases c1 with⟨_,c,_⟩|⟨c,_⟩
        ·exact⟨m,by simp,c⟩
        ·omega
       ·obtain⟨p,p1,p2⟩:=ihq n c3 (by simp at hm;rcases hm with hm|hm;exact absurd hm.symm en;exact hm)
        exact⟨p,by simp at p1⊢;exact .inr p1,p2⟩
     obtain⟨p,p1,p2⟩:=key j q h3 hi2;intro e2;have:p=k:=by omega
     subst this;exact hn.1 p1
    rw[hs j e,hg,if_neg hk];exact h1
structure Inv (P:Par)(σ:Ar)(sp:List Sp)(q:List Int):Prop where
 hl:σ.t≤σ.ws.length
 t1:1≤P.tail
 t2:P.tail+2*sp.length≤σ.t
 pcs:∀i,(spOf sp i).pc=0∨(spOf sp i).pc=1∨(spOf sp i).pc=2∨(spOf sp i).pc=3∨inq (spOf sp i)
 ar:∀i,0≤(spOf sp i).a∧(spOf sp i).a≤sp.length
 mem:∀i,i∈q↔inq (spOf sp i)
 nd:q.Nodup
 first:∀i,outs (spOf sp i)→q.head? =some i
 gT:σ.get P.tail=tailOf q
 ch:Chain P σ sp q
 hd:∀i,q.head? =some i→(spOf sp i).pc≠4∧((spOf sp i).pc=5→σ.get (wt P (i+1))=0)
 p2:∀i,(spOf sp i).pc=2∨(spOf sp i).pc=3→σ.get (nx P (i+1))=0
 p3:∀i,(spOf sp i).pc=3→σ.get (wt P (i+1))=1
 p13:∀i,(spOf sp i).pc=13→q≠ [i]
 pa:∀i,(spOf sp i).pc=12∨(spOf sp i).pc=13→(spOf sp i).a=0
 p14:∀i,(spOf sp i).pc=14→(spOf sp i).a=σ.get (nx P (i+1))∧σ.get (nx P (i+1))≠0
theorem inq_range {sp:List Sp}{i:Int}(h:inq (spOf sp i)):0≤i∧i<sp.length:=spOf_range (by unfold inq outs at h;omega)
section
variable {P:Par}{σ:Ar}{sp:List Sp}{q:List Int}(h:Inv P σ sp q)
include h
theorem Inv.hasP (p:Int)(h0:P.tail≤p)(h1:p≤P.tail+2*sp.length):σ.has p=true:=by
 have:=h.t1;have:=h.t2;unfold Ar.has;rw[decide_eq_true (by omega),decide_eq_true (by omega)];rfl
theorem Inv.hasT:σ.has P.tail=true:=h.hasP _ (by omega) (by omega)
theorem Inv.hasN (x:Int)(h0:1≤x)(h1:x≤sp.length):σ.has (nx P x)=true:=h.hasP _ (by unfold nx;omega) (by unfold nx;omega)
theorem Inv.hasW (x:Int)(h0:0≤x)(h1:x≤sp.length):σ.has (wt P x)=true:=h.hasP _ (by unfold wt;omega) (by unfold wt;omega)
theorem Inv.range (i:Int)(hi:i∈q):0≤i∧i<sp.length:=inq_range ((h.mem i).1 hi)
theorem Inv.same {σ':Ar}(hw:σ'.ws.length=σ.ws.length)(ht:σ'.t=σ.t)(hg:∀p,σ'.get p=σ.get p):Inv P σ' sp q:=
 {h with hl:=by rw[ht,hw];exact h.hl,t2:=by rw[ht];exact h.t2,gT:=(hg _).trans h.gT,ch:=h.ch.same (fun _ _=>rfl) (fun _ _=>hg _) (fun _ _=>hg _),hd:=fun i hi=>⟨(h.hd i hi).1,fun e=>(hg _).trans ((h.hd i hi).2 e)⟩,p2:=fun i hi=>(hg _).trans (h.p2 i hi),p3:=fun i hi=>(hg _).trans (h.p3 i hi),p14:=fun i hi=>by rw[hg];exact h.p14 i hi}
theorem Inv.read (p v:Int):Inv P (σ.op 1 p false v) sp q:=h.same (op_len _ _ _ _ _) (op_t _ _ _ _ _) (fun q=>get_read σ h.hl 1 p v q)
theorem Inv.turns {σ':Ar}{sp':List Sp}(hlen:sp'.length=sp.length)(i:Int)(s':Sp)(hs:∀j,spOf sp' j=if j=i then s' else spOf sp j)(hw:σ'.ws.length=σ.ws.length)(ht:σ'.t=σ.t)
 (hT:σ'.get P.tail=σ.get P.tail) (hN:∀j,inq (spOf sp j)∨j≠i→0≤j→σ'.get (nx P (j+1))=σ.get (nx P (j+1))) (hW:∀j,inq (spOf sp j)∨j≠i→0≤j→σ'.get (wt P (j+1))=σ.get (wt P (j+1)))
 (hp:s'.pc=0∨s'.pc=1∨s'.pc=2∨s'.pc=3∨inq s') (ha:0≤s'.a∧s'.a≤sp.length) (hq:inq s'↔inq (spOf sp i)) (hf:inq s'→q.head? =some i) (h45:s'.pc≠4) (h5:s'.pc=5→σ.get (wt P (i+1))=0)
 (h2:s'.pc=2∨s'.pc=3→σ'.get (nx P (i+1))=0) (h3:s'.pc=3→σ'.get (wt P (i+1))=1) (h13:s'.pc=13→q≠ [i]) (hz:s'.pc=12∨s'.pc=13→s'.a=0) (h14:s'.pc=14→s'.a=σ.get (nx P (i+1))∧σ.get (nx P (i+1))≠0):Inv P σ' sp' q:=by
 have hQ:∀j,inq (spOf sp' j)↔inq (spOf sp j):=by
  intro j;rw[hs];split
  ·rename_i e;subst e;exact hq
  ·exact Iff.rfl
 have hr0:∀j,(spOf sp j).pc≠0→0≤j:=fun j hj=>(spOf_range hj).1
 have htl:∀j,j∈q.tail→j≠i:=by
  intro j hj e;subst e;have hjq:j∈q:=List.mem_of_mem_tail hj;have:=hf ((hq).2 ((h.mem j).1 hjq));cases q with
  |nil=>simp at this
  |cons k q=>
   obtain rfl:k=j:=by simpa using this
   exact(List.nodup_cons.1 h.nd).1 (by simpa using hj)
 refine {hl:= ?_,t1:=h.t1,t2:= ?_,pcs:= ?_,ar:= ?_,mem:= ?_,nd:=h.nd,first:= ?_,gT:=hT.trans h.gT,ch:= ?_,hd:= ?_,p2:= ?_,p3:= ?_,p13:= ?_,pa:= ?_,p14:= ?_}
 ·rw[ht,hw];exact h.hl
 ·rw[hlen,ht];exact h.t2
 ·intro j;rw[hs];split
  ·exact hp
  ·exact h.pcs j
 ·intro j;rw[hs,hlen];split
  ·exact ha
  ·exact h.ar j
 ·intro j;rw[hQ];exact h.mem j
 ·intro j hj
  rw[hs]at hj;split at hj
  ·rename_i e;subst e;exact hf (.inr (.inr hj))
  ·exact h.first j hj
 ·exact h.ch.same (fun j hj=>by rw[hs,if_neg (htl j hj)]) (fun j hj=>hN j (.inl ((h.mem j).1 hj)) (h.range j hj).1) (fun j hj=>hW j (.inl ((h.mem j).1 (List.mem_of_mem_tail hj))) (h.range j (List.mem_of_mem_tail hj)).1)
 ·intro j hj
  have hjq:j∈q:=List.mem_of_mem_head? hj;rw[hs];split
  ·rename_i e;subst e
   exact⟨h45,fun e5=>(hW j (.inl ((h.mem j).1 hjq)) (h.range j hjq).1).trans (h5 e5)⟩
  ·exact⟨(h.hd j hj).1,fun e5=>(hW j (.inl ((h.mem j).1 hjq)) (h.range j hjq).1).trans ((h.hd j hj).2 e5)⟩
 ·intro j hj
  rw[hs]at hj;split at hj
  ·rename_i e;subst e;exact h2 hj
  ·rename_i e;exact(hN j (.inr e) (hr0 j (by omega))).trans (h.p2 j hj)
 ·intro j hj
  rw[hs]at hj;split at hj
  ·rename_i e;subst e;exact h3 hj
  ·rename_i e;exact(hW j (.inr e) (hr0 j (by omega))).trans (h.p3 j hj)
 ·intro j hj
  rw[hs]at hj;split at hj
  ·rename_i e;subst e;exact h13 hj
  ·exact h.p13 j hj
 ·intro j hj
  rw[hs]at hj⊢;split at hj
  ·rename_i e;rw[if_pos e];exact hz hj
  ·rename_i e;rw[if_neg e];exact h.pa j hj
 ·intro j hj
  rw[hs]at hj⊢;split at hj
  ·rename_i e;subst e
   rw[if_pos rfl];have hi:inq s':=by unfold inq outs;omega
   have hjq:=(h.mem j).2 (hq.1 hi);rw[hN j (.inl (hq.1 hi)) (h.range j hjq).1];exact h14 hj
  ·rename_i e;rw[if_neg e]
   rw[hN j (.inr e) (hr0 j (by omega))];exact h.p14 j hj
theorem Inv.linked (i:Int)(hp:outs (spOf sp i)):(∃j t,q=i::j::t∧(((spOf sp j).pc=4∧(spOf sp j).a=i+1∧σ.get (nx P (i+1))=0)∨((spOf sp j).pc=5∧σ.get (nx P (i+1))=j+1)))∨(q=[i]∧σ.get (nx P (i+1))=0):=by
 have hf:=h.first i hp;have hc:=h.ch;cases q with
 |nil=>simp at hf
 |cons k q=>
  obtain rfl:k=i:=by simpa using hf
  cases q with
  |nil=>exact .inr ⟨rfl,hc⟩
  |cons j t=>exact .inl ⟨j,t,rfl,hc.1⟩
end
end Go.Proofs.YtfmiioddhpkdkaaGreat.Mc
namespace Go.Proofs.YtfmiioddhpkdkaaGreat.Mc
open Go.RowKit Ara Lok
theorem Chain.waits {P:Par}{σ:Ar}{sp:List Sp}{q:List Int}(h:Chain P σ sp q){i:Int}(hi:i∈q.tail):σ.get (wt P (i+1))=1:=by
 induction q with
 |nil=>simp at hi
 |cons k q ih=>
  cases q with
  |nil=>simp at hi
  |cons j q=>
   simp at hi;rcases hi with rfl|hi
   ·exact h.2.1
   ·exact ih h.2.2 (by simpa using hi)
theorem Chain.pred {P:Par}{σ:Ar}{sp:List Sp}{q:List Int}(h:Chain P σ sp q){i:Int}(hi:i∈q.tail)(h4:(spOf sp i).pc=4):∃p,p∈q∧(spOf sp i).a=p+1∧σ.get (nx P (p+1))=0:=by
 induction q with
 |nil=>simp at hi
 |cons k q ih=>
  cases q with
  |nil=>simp at hi
  |cons j q=>
   obtain⟨c1,_,c3⟩:=h;by_cases e:j=i
   ·subst e
    rcases c1 with⟨_,c,d⟩|⟨c,_⟩
    ·exact⟨k,by simp,c,d⟩
    ·omega
   ·simp at hi
    rcases hi with hi|hi
    ·exact absurd hi.symm e
    ·obtain⟨p,p1,p2,p3⟩:=ih c3 (by simpa using hi)
     exact⟨p,by simp at p1⊢;exact .inr p1,p2,p3⟩
theorem set_same {sp:List Sp}{i:Int}(h0:0≤i)(h1:i<sp.length){s':Sp}(h:s'=spOf sp i):sp.set i.toNat s'=sp:=by
 subst h;obtain⟨k,rfl⟩:=Int.eq_ofNat_of_zero_le h0;have hk:k<sp.length:=by omega
 rw[spOf_in hk,Int.toNat_natCast];exact List.set_getElem_self hk
section
variable {P:Par}{σ:Ar}{sp:List Sp}{q:List Int}(h:Inv P σ sp q){i:Int}
include h
theorem inv_1 (p:(spOf sp i).pc=1):Inv P (σ.op 2 (nx P (i+1)) true 0) (sp.set i.toNat {spOf sp i with pc:=2}) q:=by
 obtain⟨i0,i1⟩:=spOf_range (sp:=sp) (i:=i) (by omega);have hh:=h.hasN (i+1) (by omega) (by omega);have hg:=fun p=>get_op σ h.hl 2 (nx P (i+1)) 0 true p;simp only[hh,true_and]at hg;have hni:¬inq (spOf sp i):=by unfold inq outs;omega
 refine h.turns (by simp) i _ (spOf_set i0 i1 {spOf sp i with pc:=2}) (op_len _ _ _ _ _) (op_t _ _ _ _ _) ?_ (fun j hj j0=> ?_) (fun j hj j0=> ?_) (.inr (.inr (.inl rfl))) (h.ar i) ⟨fun e=>by unfold inq outs at e;simp at e,fun e=>absurd e hni⟩ (fun e=>by unfold inq outs at e;simp at e) (by simp) (fun e=>by simp at e) (fun _=>by rw[hg,if_pos rfl]) (fun e=>by simp at e) (fun e=>by simp at e) (fun e=>by simp at e) (fun e=>by simp at e)
 ·rw[hg,if_neg (by unfold nx;omega)]
 ·have hji:j≠i:=hj.elim (fun e e2=>hni (e2▸e)) id
  rw[hg,if_neg (by unfold nx;omega)]
 ·rw[hg,if_neg (by unfold nx wt;omega)]
theorem inv_2 (p:(spOf sp i).pc=2):Inv P (σ.op 2 (wt P (i+1)) true 1) (sp.set i.toNat {spOf sp i with pc:=3}) q:=by
 obtain⟨i0,i1⟩:=spOf_range (sp:=sp) (i:=i) (by omega);have hh:=h.hasW (i+1) (by omega) (by omega);have hg:=fun p=>get_op σ h.hl 2 (wt P (i+1)) 1 true p;simp only[hh,true_and]at hg;have hni:¬inq (spOf sp i):=by unfold inq outs;omega
 refine h.turns (by simp) i _ (spOf_set i0 i1 {spOf sp i with pc:=3}) (op_len _ _ _ _ _) (op_t _ _ _ _ _) ?_ (fun j hj j0=> ?_) (fun j hj j0=> ?_) (.inr (.inr (.inr (.inl rfl)))) (h.ar i) ⟨fun e=>by unfold inq outs at e;simp at e,fun e=>absurd e hni⟩ (fun e=>by unfold inq outs at e;simp at e) (by simp) (fun e=>by simp at e) (fun _=> ?_) (fun _=>by rw[hg,if_pos rfl]) (fun e=>by simp at e) (fun e=>by simp at e) (fun e=>by simp at e)
 ·rw[hg,if_neg (by unfold wt;omega)]
 ·rw[hg,if_neg (by unfold nx wt;omega)]
 ·have hji:j≠i:=hj.elim (fun e e2=>hni (e2▸e)) id
  rw[hg,if_neg (by unfold wt;omega)]
 ·rw[hg,if_neg (by unfold nx wt;omega)]
  exact h.p2 i (.inl p)
theorem inv_3 (p:(spOf sp i).pc=3):Inv P (σ.op 3 P.tail true (i+1)) (sp.set i.toNat {spOf sp i with pc:=if σ.get P.tail=0 then 10 else 4,a:=σ.get P.tail}) (q++ [i]):=by
 obtain⟨i0,i1⟩:=spOf_range (sp:=sp) (i:=i) (by omega);have hni:i∉q:=fun hi=>by have:=(h.mem i).1 hi;unfold inq outs at this;omega
 have hg:=fun p=>get_op σ h.hl 3 P.tail (i+1) true p;simp only[h.hasT,true_and]at hg;have hs:=spOf_set i0 i1 {spOf sp i with pc:=if σ.get P.tail=0 then 10 else 4,a:=σ.get P.tail};have hlen:(sp.set i.toNat {spOf sp i with pc:=if σ.get P.tail=0 then 10 else 4,a:=σ.get P.tail}).length=sp.length:=by simp
 generalize sp.set i.toNat {spOf sp i with pc:=if σ.get P.tail=0 then 10 else 4,a:=σ.get P.tail}=sp' at*;have hI:spOf sp' i={spOf sp i with pc:=if σ.get P.tail=0 then 10 else 4,a:=σ.get P.tail}:=by rw[hs,if_pos rfl]
 have hO:∀j,j≠i→spOf sp' j=spOf sp j:=fun j e=>by rw[hs,if_neg e]
 have hpi:(spOf sp' i).pc=10∨(spOf sp' i).pc=4:=by rw[hI];simp only;split;exact .inl rfl;exact .inr rfl
 have hv:(q=[]∧σ.get P.tail=0∧(spOf sp' i).pc=10)∨(q≠ []∧σ.get P.tail≠0∧(spOf sp' i).pc=4):=by
  by_cases e:q=[]
  ·have:σ.get P.tail=0:=by rw[h.gT,e];rfl
   exact .inl ⟨e,this,by rw[hI];simp only;rw[if_pos this]⟩
  ·obtain⟨j,j1,j2⟩:=tailOf_mem e
   have:=h.range j j1;have hn:σ.get P.tail≠0:=by rw[h.gT,j2];omega
   exact .inr ⟨e,hn,by rw[hI];simp only;rw[if_neg hn]⟩
 have hN:∀j,0≤j→(σ.op 3 P.tail true (i+1)).get (nx P (j+1))=σ.get (nx P (j+1)):=fun j j0=>by rw[hg,if_neg (by unfold nx;omega)]
 have hW:∀j,0≤j→(σ.op 3 P.tail true (i+1)).get (wt P (j+1))=σ.get (wt P (j+1)):=fun j j0=>by rw[hg,if_neg (by unfold wt;omega)]
 have hr0:∀j,(spOf sp j).pc≠0→0≤j:=fun j hj=>(spOf_range hj).1;have hc':Chain P (σ.op 3 P.tail true (i+1)) sp' q:=h.ch.same (fun j hj=>hO j (fun e=>hni (e▸List.mem_of_mem_tail hj))) (fun j hj=>hN j (h.range j hj).1) (fun j hj=>hW j (h.range j (List.mem_of_mem_tail hj)).1);refine {t1:=h.t1,hl:= ?_,t2:= ?_,pcs:= ?_,ar:= ?_,mem:= ?_,nd:= ?_,first:= ?_,gT:= ?_,ch:= ?_,hd:= ?_,p2:= ?_,p3:= ?_,p13:= ?_,pa:= ?_,p14:= ?_}
 ·rw[op_t,op_len];exact h.hl
 ·rw[hlen,op_t];exact h.t2
 ·intro j
  by_cases e:j=i
  ·subst e
   right;right;right;right;rcases hpi with e|e
   ·exact .inr (.inr (.inl e))
   ·exact .inl e
  ·rw[hO j e];exact h.pcs j
 ·intro j
  rw[hlen];by_cases e:j=i
  ·subst e
   rw[hI];show 0≤σ.get P.tail∧σ.get P.tail≤_;rcases hv with⟨_,e,_⟩|⟨e,_,_⟩
   ·rw[e];omega
   ·obtain⟨k,k1,k2⟩:=tailOf_mem e
    have:=h.range k k1;rw[h.gT,k2];omega
  ·rw[hO j e];exact h.ar j
 ·intro j
  rw[List.mem_append,List.mem_singleton];by_cases e:j=i
  ·subst e
   refine⟨fun _=> ?_,fun _=> .inr rfl⟩;rcases hpi with e|e
   ·exact .inr (.inr (.inl e))
   ·exact .inl e
  ·rw[hO j e]
   exact⟨fun hj=>hj.elim (h.mem j).1 (fun e'=>absurd e' e),fun hj=> .inl ((h.mem j).2 hj)⟩
 ·rw[List.nodup_append]
  refine⟨h.nd,by simp,fun a ha b hb e=> ?_⟩;simp at hb;subst hb;exact hni (e▸ha)
 ·intro j hj
  by_cases e:j=i
  ·subst e
   rcases hv with⟨e,_,_⟩|⟨_,_,e⟩
   ·rw[e];rfl
   ·unfold outs at hj;omega
  ·rw[hO j e]at hj
   have:=h.first j hj;cases q with
   |nil=>simp at this
   |cons k q=>simpa using this
 ·rw[hg,if_pos rfl,tailOf_push]
 ·rcases hv with⟨e,_,_⟩|⟨e,_,e4⟩
  ·subst e
   show _=_;rw[hN i i0];exact h.p2 i (.inr p)
  ·exact hc'.push e e4 (by rw[hI];exact h.gT) (by rw[hN i i0];exact h.p2 i (.inr p)) (by rw[hW i i0];exact h.p3 i p)
 ·intro j hj
  rcases hv with⟨e,_,e10⟩|⟨e,_,_⟩
  ·subst e
   obtain rfl:i=j:=by simpa using hj
   omega
  ·have hj2:q.head? =some j:=by
    cases q with
    |nil=>exact absurd rfl e
    |cons k q=>simpa using hj
   have hjq:j∈q:=List.mem_of_mem_head? hj2;have hji:j≠i:=fun e=>hni (e▸hjq);rw[hO j hji,hW j (h.range j hjq).1];exact h.hd j hj2
 ·intro j hj
  have e:j≠i:=by rintro rfl;omega
  rw[hO j e]at hj;rw[hN j (hr0 j (by omega))];exact h.p2 j hj
 ·intro j hj
  have e:j≠i:=by rintro rfl;omega
  rw[hO j e]at hj;rw[hW j (hr0 j (by omega))];exact h.p3 j hj
 ·intro j hj e2
  have e:j≠i:=by rintro rfl;omega
  rw[hO j e]at hj
  have hq0:q=[]:=by
   cases q with
   |nil=>rfl
   |cons k q=>simp at e2
  have:=h.first j (by unfold outs;omega);rw[hq0]at this;simp at this
 ·intro j hj
  have e:j≠i:=by rintro rfl;omega
  rw[hO j e]at hj⊢;exact h.pa j hj
 ·intro j hj
  have e:j≠i:=by rintro rfl;omega
  rw[hO j e]at hj⊢;rw[hN j (hr0 j (by omega))];exact h.p14 j hj
theorem inv_4 (p:(spOf sp i).pc=4):Inv P (σ.op 2 (nx P (spOf sp i).a) true (i+1)) (sp.set i.toNat {spOf sp i with pc:=5}) q∧σ.has (nx P (spOf sp i).a)=true:=by
 obtain⟨i0,i1⟩:=spOf_range (sp:=sp) (i:=i) (by omega);have hiq:=(h.mem i).2 (.inl p)
 have hit:i∈q.tail:=by
  cases q with
  |nil=>simp at hiq
  |cons k q=>
   rcases List.mem_cons.1 hiq with rfl|hiq
   ·exact absurd p (h.hd i rfl).1
   ·simpa using hiq
 obtain⟨m,m1,m2,m3⟩:=h.ch.pred hit p;have hm:=h.range m m1;have hh:=h.hasN (spOf sp i).a (by omega) (by omega);refine⟨?_,hh⟩;have hg:=fun p=>get_op σ h.hl 2 (nx P (spOf sp i).a) (i+1) true p;simp only[hh,true_and]at hg;have hs:=spOf_set i0 i1 {spOf sp i with pc:=5};have hlen:(sp.set i.toNat {spOf sp i with pc:=5}).length=sp.length:=by simp
 generalize sp.set i.toNat {spOf sp i with pc:=5}=sp' at*;have hI:spOf sp' i={spOf sp i with pc:=5}:=by rw[hs,if_pos rfl]
 have hI5:(spOf sp' i).pc=5:=by rw[hI]
 have hO:∀j,j≠i→spOf sp' j=spOf sp j:=fun j e=>by rw[hs,if_neg e]
 have hN:∀j,(σ.op 2 (nx P (spOf sp i).a) true (i+1)).get (nx P (j+1))=if j+1=(spOf sp i).a then i+1 else σ.get (nx P (j+1)):=by
  intro j;rw[hg];by_cases e:j+1=(spOf sp i).a
  ·rw[if_pos e,if_pos (by rw[e])]
  ·rw[if_neg e,if_neg (by unfold nx;omega)]
 have hW:∀j,(σ.op 2 (nx P (spOf sp i).a) true (i+1)).get (wt P (j+1))=σ.get (wt P (j+1)):=fun j=>by rw[hg,if_neg (by unfold nx wt;omega)]
 refine {t1:=h.t1,hl:= ?_,t2:= ?_,pcs:= ?_,ar:= ?_,mem:= ?_,nd:=h.nd,first:= ?_,gT:= ?_,ch:= ?_,hd:= ?_,p2:= ?_,p3:= ?_,p13:= ?_,pa:= ?_,p14:= ?_}
 ·rw[op_t,op_len];exact h.hl
 ·rw[hlen,op_t];exact h.t2
 ·intro j
  by_cases e:j=i
  ·subst e;exact .inr (.inr (.inr (.inr (.inr (.inl hI5)))))
  ·rw[hO j e];exact h.pcs j
 ·intro j
  rw[hlen];by_cases e:j=i
  ·subst e;rw[hI];exact h.ar j
  ·rw[hO j e];exact h.ar j
 ·intro j
  by_cases e:j=i
  ·subst e;exact⟨fun _=> .inr (.inl hI5),fun _=>hiq⟩
  ·rw[hO j e];exact h.mem j
 ·intro j hj
  have e:j≠i:=by rintro rfl;unfold outs at hj;omega
  rw[hO j e]at hj;exact h.first j hj
 ·rw[hg,if_neg (by unfold nx;omega)];exact h.gT
 ·exact h.ch.link hit h.nd p hI5 hO hN hW
 ·intro j hj
  by_cases e:j=i
  ·subst e;exact absurd p (h.hd j hj).1
  ·rw[hO j e,hW];exact h.hd j hj
 ·intro j hj
  have e:j≠i:=by rintro rfl;omega
  rw[hO j e]at hj;rw[hN,if_neg]
  ·exact h.p2 j hj
  ·intro e2
   have:j=m:=by omega
   subst this;have:=(h.mem j).1 m1;unfold inq outs at this;omega
 ·intro j hj
  have e:j≠i:=by rintro rfl;omega
  rw[hO j e]at hj;rw[hW];exact h.p3 j hj
 ·intro j hj
  have e:j≠i:=by rintro rfl;omega
  rw[hO j e]at hj;exact h.p13 j hj
 ·intro j hj
  have e:j≠i:=by rintro rfl;omega
  rw[hO j e]at hj⊢;exact h.pa j hj
 ·intro j hj
  have e:j≠i:=by rintro rfl;omega
  rw[hO j e]at hj⊢;rw[hN,if_neg]
  ·exact h.p14 j hj
  ·intro e2
   have:j=m:=by omega
   subst this;exact(h.p14 j hj).2 m3
theorem inv_5 (p:(spOf sp i).pc=5)(hz:σ.get (wt P (i+1))=0):Inv P (σ.op 1 (wt P (i+1)) false 0) (sp.set i.toNat {spOf sp i with pc:=10}) q∧q.head? =some i:=by
 obtain⟨i0,i1⟩:=spOf_range (sp:=sp) (i:=i) (by omega);have hiq:=(h.mem i).2 (.inr (.inl p))
 have hf:q.head? =some i:=by
  cases q with
  |nil=>simp at hiq
  |cons k q=>
   rcases List.mem_cons.1 hiq with rfl|hiq
   ·rfl
   ·have:=h.ch.waits (i:=i) (by simpa using hiq)
    omega
 refine⟨(h.turns (by simp) i _ (spOf_set i0 i1 {spOf sp i with pc:=10}) rfl rfl rfl (fun _ _ _=>rfl) (fun _ _ _=>rfl) (.inr (.inr (.inr (.inr (.inr (.inr (.inl rfl))))))) (h.ar i) ⟨fun _=> .inr (.inl p),fun _=> .inr (.inr (.inl rfl))⟩ (fun _=>hf) (by simp) (fun e=>by simp at e) (fun e=>by simp at e) (fun e=>by simp at e) (fun e=>by simp at e) (fun e=>by simp at e) (fun e=>by simp at e)).read _ _,hf⟩
theorem inv_look (p:(spOf sp i).pc=11∨(spOf sp i).pc=13):Inv P (σ.op 1 (nx P (i+1)) false 0) (sp.set i.toNat {spOf sp i with pc:=if σ.get (nx P (i+1))=0 then(if(spOf sp i).pc=11 then 12 else 13)else 14,a:=σ.get (nx P (i+1))}) q:=by
 obtain⟨i0,i1⟩:=spOf_range (sp:=sp) (i:=i) (by omega);have hin:outs (spOf sp i):=by unfold outs;omega
 have hf:=h.first i hin
 have hvr:0≤σ.get (nx P (i+1))∧σ.get (nx P (i+1))≤sp.length:=by
  rcases h.linked i hin with⟨j,t,hq,hj|hj⟩|⟨_,hj⟩
  ·rw[hj.2.2];omega
  ·have:=h.range j (by rw[hq];simp)
   rw[hj.2];omega
  ·rw[hj];omega
 by_cases hz:σ.get (nx P (i+1))=0
 ·rw[if_pos hz]
  by_cases p11:(spOf sp i).pc=11
  ·rw[if_pos p11]
   exact(h.turns (by simp) i _ (spOf_set i0 i1 {spOf sp i with pc:=12,a:=σ.get (nx P (i+1))}) rfl rfl rfl (fun _ _ _=>rfl) (fun _ _ _=>rfl) (.inr (.inr (.inr (.inr (.inr (.inr (.inr (.inr (.inl rfl))))))))) hvr ⟨fun _=> .inr (.inr hin),fun _=> .inr (.inr (.inr (.inr (.inl rfl))))⟩ (fun _=>hf) (by simp) (fun e=>by simp at e) (fun e=>by simp at e) (fun e=>by simp at e) (fun e=>by simp at e) (fun _=>hz) (fun e=>by simp at e)).read _ _
  ·rw[if_neg p11]
   exact(h.turns (by simp) i _ (spOf_set i0 i1 {spOf sp i with pc:=13,a:=σ.get (nx P (i+1))}) rfl rfl rfl (fun _ _ _=>rfl) (fun _ _ _=>rfl) (.inr (.inr (.inr (.inr (.inr (.inr (.inr (.inr (.inr (.inl rfl)))))))))) hvr ⟨fun _=> .inr (.inr hin),fun _=> .inr (.inr (.inr (.inr (.inr (.inl rfl)))))⟩ (fun _=>hf) (by simp) (fun e=>by simp at e) (fun e=>by simp at e) (fun e=>by simp at e) (fun _=>h.p13 i (by omega)) (fun _=>hz) (fun e=>by simp at e)).read _ _
 ·rw[if_neg hz]
  exact(h.turns (by simp) i _ (spOf_set i0 i1 {spOf sp i with pc:=14,a:=σ.get (nx P (i+1))}) rfl rfl rfl (fun _ _ _=>rfl) (fun _ _ _=>rfl) (.inr (.inr (.inr (.inr (.inr (.inr (.inr (.inr (.inr (.inr rfl)))))))))) hvr ⟨fun _=> .inr (.inr hin),fun _=> .inr (.inr (.inr (.inr (.inr (.inr rfl)))))⟩ (fun _=>hf) (by simp) (fun e=>by simp at e) (fun e=>by simp at e) (fun e=>by simp at e) (fun e=>by simp at e) (fun e=>by simp at e) (fun _=>⟨rfl,hz⟩)).read _ _
theorem Inv.casB:(σ.has P.tail&&(σ.get P.tail==i+1))=decide (tailOf q=i+1):=by
 rw[h.hasT,Bool.true_and,h.gT];by_cases e:tailOf q=i+1<;>simp[e]
theorem inv_12 (p:(spOf sp i).pc=12)(hc:tailOf q=i+1):Inv P (σ.op 4 P.tail true 0) (sp.set i.toNat {spOf sp i with pc:=0}) []∧q=[i]:=by
 obtain⟨i0,i1⟩:=spOf_range (sp:=sp) (i:=i) (by omega);have hin:outs (spOf sp i):=by unfold outs;omega
 have hf:=h.first i hin
 have hq:q=[i]:=by
  cases q with
  |nil=>simp at hf
  |cons k q=>
   obtain rfl:k=i:=by simpa using hf
   cases q with
   |nil=>rfl
   |cons j t=>
    obtain⟨m,m1,m2⟩:=tailOf_mem (q:=j::t) (by simp)
    have:m=k:=by
     have:tailOf (k::j::t)=tailOf (j::t):=rfl;omega
    subst this;exact absurd m1 (List.nodup_cons.1 h.nd).1
 refine⟨?_,hq⟩;have hg:=fun p=>get_op σ h.hl 4 P.tail 0 true p;simp only[h.hasT,true_and]at hg;have hs:=spOf_set i0 i1 {spOf sp i with pc:=0};have hlen:(sp.set i.toNat {spOf sp i with pc:=0}).length=sp.length:=by simp
 generalize sp.set i.toNat {spOf sp i with pc:=0}=sp' at*;have hI:spOf sp' i={spOf sp i with pc:=0}:=by rw[hs,if_pos rfl]
 have hI0:(spOf sp' i).pc=0:=by rw[hI]
 have hO:∀j,j≠i→spOf sp' j=spOf sp j:=fun j e=>by rw[hs,if_neg e]
 have hni:∀j,¬inq (spOf sp' j):=by
  intro j hj;by_cases e:j=i
  ·subst e;unfold inq outs at hj;omega
  ·rw[hO j e]at hj
   have:=(h.mem j).2 hj;rw[hq]at this;exact e (by simpa using this)
 have hr0:∀j,(spOf sp j).pc≠0→0≤j:=fun j hj=>(spOf_range hj).1;refine {t1:=h.t1,hl:= ?_,t2:= ?_,pcs:= ?_,ar:= ?_,mem:= ?_,nd:=List.nodup_nil,first:=fun j hj=>absurd (.inr (.inr hj)) (hni j),gT:= ?_,ch:=trivial,hd:= ?_,p2:= ?_,p3:= ?_,p13:=fun j hj=>absurd (by unfold inq outs;omega) (hni j),pa:=fun j hj=>absurd (by unfold inq outs;omega) (hni j),p14:=fun j hj=>absurd (by unfold inq outs;omega) (hni j)}
 ·rw[op_t,op_len];exact h.hl
 ·rw[hlen,op_t];exact h.t2
 ·intro j
  by_cases e:j=i
  ·subst e;exact .inl hI0
  ·rw[hO j e];exact h.pcs j
 ·intro j
  rw[hlen];by_cases e:j=i
  ·subst e;rw[hI];exact h.ar j
  ·rw[hO j e];exact h.ar j
 ·intro j
  exact⟨fun hj=>by simp at hj,fun hj=>absurd hj (hni j)⟩
 ·rw[hg,if_pos rfl];rfl
 ·intro j hj;simp at hj
 ·intro j hj
  have e:j≠i:=by rintro rfl;omega
  rw[hO j e]at hj;have:=hr0 j (by omega);rw[hg,if_neg (by unfold nx;omega)];exact h.p2 j hj
 ·intro j hj
  have e:j≠i:=by rintro rfl;omega
  rw[hO j e]at hj;have:=hr0 j (by omega);rw[hg,if_neg (by unfold wt;omega)];exact h.p3 j hj
theorem inv_12b (p:(spOf sp i).pc=12)(hc:tailOf q≠i+1):Inv P (σ.op 4 P.tail false 0) (sp.set i.toNat {spOf sp i with pc:=13}) q:=by
 obtain⟨i0,i1⟩:=spOf_range (sp:=sp) (i:=i) (by omega);have hin:outs (spOf sp i):=by unfold outs;omega
 have hf:=h.first i hin;refine(h.turns (by simp) i _ (spOf_set i0 i1 {spOf sp i with pc:=13}) rfl rfl rfl (fun _ _ _=>rfl) (fun _ _ _=>rfl) (.inr (.inr (.inr (.inr (.inr (.inr (.inr (.inr (.inr (.inl rfl)))))))))) (h.ar i) ⟨fun _=> .inr (.inr hin),fun _=> .inr (.inr (.inr (.inr (.inr (.inl rfl)))))⟩ (fun _=>hf) (by simp) (fun e=>by simp at e) (fun e=>by simp at e) (fun e=>by simp at e) (fun _ e=>hc (by rw[e];rfl)) (fun _=>h.pa i (.inl p)) (fun e=>by simp at e)).same (op_len _ _ _ _ _) (op_t _ _ _ _ _) (fun q=>get_read σ h.hl 4 _ _ q)
theorem inv_14 (p:(spOf sp i).pc=14):∃j t,q=i::j::t∧(spOf sp j).pc=5∧Inv P (σ.op 2 (wt P (spOf sp i).a) true 0) (sp.set i.toNat {spOf sp i with pc:=0}) (j::t):=by
 obtain⟨i0,i1⟩:=spOf_range (sp:=sp) (i:=i) (by omega);have hin:outs (spOf sp i):=by unfold outs;omega
 obtain⟨ha,hnz⟩:=h.p14 i p;rcases h.linked i hin with⟨j,t,hq,hj|⟨hj5,hj⟩⟩|⟨_,hj⟩
 ·exact absurd hj.2.2 hnz
 ·subst hq
  have haj:(spOf sp i).a=j+1:=by rw[ha,hj]
  have hjr:=h.range j (by simp);have hnd:=h.nd;rw[List.nodup_cons,List.nodup_cons]at hnd;obtain⟨hn1,hn2,hn3⟩:=hnd;have hji:j≠i:=fun e=>hn1 (by simp[e]);rw[haj];refine⟨j,t,rfl,hj5,?_⟩;have hh:=h.hasW (j+1) (by omega) (by omega);have hg:=fun p=>get_op σ h.hl 2 (wt P (j+1)) 0 true p;simp only[hh,true_and]at hg;have hs:=spOf_set i0 i1 {spOf sp i with pc:=0};have hlen:(sp.set i.toNat {spOf sp i with pc:=0}).length=sp.length:=by simp
  generalize sp.set i.toNat {spOf sp i with pc:=0}=sp' at*;have hI:spOf sp' i={spOf sp i with pc:=0}:=by rw[hs,if_pos rfl]
  have hI0:(spOf sp' i).pc=0:=by rw[hI]
  have hO:∀j,j≠i→spOf sp' j=spOf sp j:=fun j e=>by rw[hs,if_neg e]
  have hN:∀m,(σ.op 2 (wt P (j+1)) true 0).get (nx P (m+1))=σ.get (nx P (m+1)):=fun m=>by rw[hg,if_neg (by unfold nx wt;omega)]
  have hW:∀m,m≠j→(σ.op 2 (wt P (j+1)) true 0).get (wt P (m+1))=σ.get (wt P (m+1)):=fun m e=>by rw[hg,if_neg (by unfold wt;omega)]
  have hno:∀m,¬outs (spOf sp' m):=by
   intro m hm;by_cases e:m=i
   ·subst e;unfold outs at hm;omega
   ·rw[hO m e]at hm
    have:=h.first m hm;exact e (by simpa using this.symm)
  have hit:∀m,m∈j::t→m≠i:=fun m hm e=>hn1 (e▸hm);refine {t1:=h.t1,hl:= ?_,t2:= ?_,pcs:= ?_,ar:= ?_,mem:= ?_,nd:=List.nodup_cons.2 ⟨hn2,hn3⟩,first:=fun m hm=>absurd hm (hno m),gT:= ?_,ch:= ?_,hd:= ?_,p2:= ?_,p3:= ?_,p13:=fun m hm=>absurd (by unfold outs;omega) (hno m),pa:=fun m hm=>absurd (by unfold outs;omega) (hno m),p14:=fun m hm=>absurd (by unfold outs;omega) (hno m)}
  ·rw[op_t,op_len];exact h.hl
  ·rw[hlen,op_t];exact h.t2
  ·intro m
   by_cases e:m=i
   ·subst e;exact .inl hI0
   ·rw[hO m e];exact h.pcs m
  ·intro m
   rw[hlen];by_cases e:m=i
   ·subst e;rw[hI];exact h.ar m
   ·rw[hO m e];exact h.ar m
  ·intro m
   by_cases e:m=i
   ·subst e
    refine⟨fun hm=>absurd hm hn1,fun hm=> ?_⟩;unfold inq outs at hm;omega
   ·rw[hO m e,←h.mem m]
    simp[e]
  ·rw[hg,if_neg (by unfold wt;omega),h.gT]
   rfl
  ·refine h.ch.2.2.same (fun m hm=>hO m (hit m (List.mem_of_mem_tail hm))) (fun m _=>hN m) (fun m hm=>hW m (fun e=>hn2 (by subst e;simpa using hm)))
  ·intro m hm
   obtain rfl:j=m:=by simpa using hm
   rw[hO j hji];exact⟨by omega,fun _=>by rw[hg,if_pos rfl]⟩
  ·intro m hm
   have e:m≠i:=by rintro rfl;omega
   rw[hO m e]at hm;rw[hN];exact h.p2 m hm
  ·intro m hm
   have e:m≠i:=by rintro rfl;omega
   rw[hO m e]at hm;rw[hW m (by rintro rfl;omega)];exact h.p3 m hm
 ·exact absurd hj hnz
theorem inv_ask:Inv P σ (turnS sp i 0 1) q:=by
 cases ht:turnB sp i 0
 ·rw[turn_no 1 ht];exact h
 ·have hp:=(turn_true ht).2
  exact h.turns (turnS_len _ _ _ _) i _ (spOf_turn 1 ht) rfl rfl rfl (fun _ _ _=>rfl) (fun _ _ _=>rfl) (.inr (.inl rfl)) (h.ar i) ⟨fun e=>by unfold inq outs at e;simp at e,fun e=>by unfold inq outs at e;omega⟩ (fun e=>by unfold inq outs at e;simp at e) (by simp) (fun e=>by simp at e) (fun e=>by simp at e) (fun e=>by simp at e) (fun e=>by simp at e) (fun e=>by simp at e) (fun e=>by simp at e)
theorem inv_leave:Inv P σ (turnS sp i 10 11) q:=by
 cases ht:turnB sp i 10
 ·rw[turn_no 11 ht];exact h
 ·have hp:=(turn_true ht).2
  exact h.turns (turnS_len _ _ _ _) i _ (spOf_turn 11 ht) rfl rfl rfl (fun _ _ _=>rfl) (fun _ _ _=>rfl) (.inr (.inr (.inr (.inr (.inr (.inr (.inr (.inl rfl)))))))) (h.ar i) ⟨fun _=> .inr (.inr (.inl hp)),fun _=> .inr (.inr (.inr (.inl rfl)))⟩ (fun _=>h.first i (.inl hp)) (by simp) (fun e=>by simp at e) (fun e=>by simp at e) (fun e=>by simp at e) (fun e=>by simp at e) (fun e=>by simp at e) (fun e=>by simp at e)
theorem inv_alone:Inv P (aloneP P σ sp i).2 sp q:=by
 unfold aloneP;split
 ·exact h.read _ _
 ·exact h
end
end Go.Proofs.YtfmiioddhpkdkaaGreat.Mc
