/- Merged texts: Ta4, PtO, PtI, McI, ClP. -/
import Derived.Test.YtfmiioddhpkdkaaGreatWh12
set_option linter.unusedVariables false
set_option linter.unusedSimpArgs false
namespace Go.Proofs.YtfmiioddhpkdkaaGreat.Ta
open Go.RowKit Go.Proofs.YtfmiioddhpkdkaaGreat.Ara Go.Proofs.YtfmiioddhpkdkaaGreat.Lok
section
variable(gl ga ha hs:Nat)(P:Par)(σ:Ar)(sp:List Sp)(w:World)(H:LkAt w gl ga ha hs P σ sp)
include H
theorem no_Ask (i:Int)(h:turnB sp i 0=false):Calls Tryz.prog 336 #[.pointer (some ⟨gl,0,none⟩),.int .i64 i] w fun e w'=>e= .returned (.bool false)∧w'=w:=by
 by_cases hi:i<0∨(sp.length:Int)≤i
 ·have HS:=Lib.hid (spot_out_lk gl ga ha hs P σ sp w H i hi)
  clear H hi h;go_enter Tryz.func336,Tryz.ntmps336;go_wp2_with fail;refine(HS.out).mono ?_;rintro e wx ⟨rfl,hwx⟩;obtain rfl:=hwx.symm;go_wp2_with fail;go_ret;exact⟨rfl,rfl⟩
 ·obtain⟨k,rfl⟩:=Int.eq_ofNat_of_zero_le (show 0≤i by omega)
  have hk:k<sp.length:=by omega
  have HS:=Lib.hid (spot_in_lk gl ga ha hs P σ sp w H k hk);have c0:=(H.2.1.cells k hk).1;rw[turn_in hk]at h;have e1:(sp[k].pc !=0)=true:=by rw[bne,h];rfl
  generalize sp[k].pc=x at*;clear H hi h;go_enter Tryz.func336,Tryz.ntmps336;go_wp2_with fail;refine(HS.out).mono ?_;rintro e wx ⟨rfl,hwx⟩;obtain rfl:=hwx.symm;go_wp2_with fail;go_ret;exact⟨rfl,rfl⟩
theorem no_Leave (i:Int)(h:turnB sp i 10=false):Calls Tryz.prog 337 #[.pointer (some ⟨gl,0,none⟩),.int .i64 i] w fun e w'=>e= .returned (.bool false)∧w'=w:=by
 by_cases hi:i<0∨(sp.length:Int)≤i
 ·have HS:=Lib.hid (spot_out_lk gl ga ha hs P σ sp w H i hi)
  clear H hi h;go_enter Tryz.func337,Tryz.ntmps337;go_wp2_with fail;refine(HS.out).mono ?_;rintro e wx ⟨rfl,hwx⟩;obtain rfl:=hwx.symm;go_wp2_with fail;go_ret;exact⟨rfl,rfl⟩
 ·obtain⟨k,rfl⟩:=Int.eq_ofNat_of_zero_le (show 0≤i by omega)
  have hk:k<sp.length:=by omega
  have HS:=Lib.hid (spot_in_lk gl ga ha hs P σ sp w H k hk);have c0:=(H.2.1.cells k hk).1;rw[turn_in hk]at h;have e1:(sp[k].pc !=10)=true:=by rw[bne,h];rfl
  generalize sp[k].pc=x at*;clear H hi h;go_enter Tryz.func337,Tryz.ntmps337;go_wp2_with fail;refine(HS.out).mono ?_;rintro e wx ⟨rfl,hwx⟩;obtain rfl:=hwx.symm;go_wp2_with fail;go_ret;exact⟨rfl,rfl⟩
theorem ask_lk (i:Int):Calls Tryz.prog 336 #[.pointer (some ⟨gl,0,none⟩),.int .i64 i] w fun e w'=>e= .returned (.bool (turnB sp i 0))∧LkAt w' gl ga ha hs P σ (askS sp i)∧Mod [hs] w w':=by
 cases ht:turnB sp i 0 with
 |false=>
  have e:askS sp i=sp:=by unfold askS;rw[ht,if_neg (by simp)]
  rw[e];refine(no_Ask gl ga ha hs P σ sp w H i ht).mono ?_;rintro x w' ⟨rfl,rfl⟩;exact⟨rfl,H,Mod.refl _ _⟩
 |true=>
  obtain⟨⟨i0,i1⟩,hp⟩:=turn_true ht;have e:askS sp i=sp.set i.toNat {spOf sp i with pc:=1,a:=1}:=by unfold askS;rw[ht,if_pos rfl]
  rw[e];obtain⟨k,rfl⟩:=Int.eq_ofNat_of_zero_le i0;have hk:k<sp.length:=by omega
  rw[spOf_in hk]at hp⊢;rw[Int.toNat_natCast];exact ask_yes gl ga ha hs P σ sp w H k hk hp _ rfl
theorem leave_lk (i:Int):Calls Tryz.prog 337 #[.pointer (some ⟨gl,0,none⟩),.int .i64 i] w fun e w'=>e= .returned (.bool (turnB sp i 10))∧LkAt w' gl ga ha hs P σ (turnS sp i 10 11)∧Mod [hs] w w':=by
 cases ht:turnB sp i 10 with
 |false=>
  rw[turn_no 11 ht];refine(no_Leave gl ga ha hs P σ sp w H i ht).mono ?_;rintro x w' ⟨rfl,rfl⟩;exact⟨rfl,H,Mod.refl _ _⟩
 |true=>
  obtain⟨⟨i0,i1⟩,hp⟩:=turn_true ht;have e:turnS sp i 10 11=sp.set i.toNat {spOf sp i with pc:=11}:=by unfold turnS;rw[ht,if_pos rfl]
  rw[e];obtain⟨k,rfl⟩:=Int.eq_ofNat_of_zero_le i0;have hk:k<sp.length:=by omega
  rw[spOf_in hk]at hp⊢;rw[Int.toNat_natCast];exact leave_yes gl ga ha hs P σ sp w H k hk hp _ rfl
set_option maxRecDepth 100000 in
theorem step_none (i:Int)(h:¬((spOf sp i).pc=1∨(spOf sp i).pc=2∨(spOf sp i).pc=11)):Calls Tryz.prog 340 #[.pointer (some ⟨gl,0,none⟩),.int .i64 i] w fun e w'=>e= .returned (.bool false)∧LkAt w' gl ga ha hs P σ sp∧Mod [ga,ha,hs] w w':=by
 have HH:=Lib.hid H;by_cases hi:i<0∨(sp.length:Int)≤i
 ·have HS:=Lib.hid (spot_out_lk gl ga ha hs P σ sp w H i hi)
  clear H hi h;go_enter Tryz.func340,Tryz.ntmps340;go_wp2_with fail;refine(HS.out).mono ?_;rintro e wx ⟨rfl,hwx⟩;obtain rfl:=hwx.symm;go_wp2_with fail;go_ret;exact⟨rfl,HH.out,Mod.refl _ _⟩
 ·obtain⟨k,rfl⟩:=Int.eq_ofNat_of_zero_le (show 0≤i by omega)
  have hk:k<sp.length:=by omega
  have HS:=Lib.hid (spot_in_lk gl ga ha hs P σ sp w H k hk);have c0:=(H.2.1.cells k hk).1;rw[spOf_in hk]at h;have e1:=ibeq_no (show¬sp[k].pc=1 by omega);have e2:=ibeq_no (show¬sp[k].pc=2 by omega);have e3:=ibeq_no (show¬sp[k].pc=11 by omega);generalize sp[k].pc=x at*;clear H hi h;go_enter Tryz.func340,Tryz.ntmps340;go_wp2_with fail;refine(HS.out).mono ?_;rintro e wx ⟨rfl,hwx⟩;obtain rfl:=hwx.symm;go_wp2_with fail;go_ret;exact⟨rfl,HH.out,Mod.refl _ _⟩
theorem step_lk (hI:Inv P σ sp)(ho:σ.ops≤1000000)(i:Int):Calls Tryz.prog 340 #[.pointer (some ⟨gl,0,none⟩),.int .i64 i] w fun e w'=>e= .returned (.bool (stepP P σ sp i).1)∧LkAt w' gl ga ha hs P (stepP P σ sp i).2.1 (stepP P σ sp i).2.2∧Mod [ga,ha,hs] w w':=by
 by_cases h:(spOf sp i).pc=1∨(spOf sp i).pc=2∨(spOf sp i).pc=11
 ·obtain⟨i0,i1⟩:=spOf_range (sp:=sp) (i:=i) (by omega)
  obtain⟨k,rfl⟩:=Int.eq_ofNat_of_zero_le i0;have hk:k<sp.length:=by omega
  have har:=hI.ar (k:Int);have hbr:=hI.br (k:Int);have hm1:=hI.m1;have hm2:=hI.m2;unfold stepP;rw[spOf_in hk]at h har hbr⊢;simp only[Int.toNat_natCast];rcases h with h|h|h
  ·rw[if_pos h]
   cases hc:tryB P σ with
   |true=>
    simp only[if_true];exact step_one_yes gl ga ha hs P σ sp w H k hk ho h hc _ rfl
   |false=>
    simp only[Bool.false_eq_true,if_false];exact step_one_no gl ga ha hs P σ sp w H k hk ho h (by omega) (by omega) hc _ rfl
  ·rw[if_neg (by omega),if_pos h]
   exact step_two gl ga ha hs P σ sp w H k hk h (by omega) _ rfl
  ·rw[if_neg (by omega),if_neg (by omega),if_pos h]
   exact step_out gl ga ha hs P σ sp w H k hk ho h _ rfl
 ·have e:stepP P σ sp i=(false,σ,sp):=by unfold stepP;rw[if_neg (by omega),if_neg (by omega),if_neg (by omega)]
  rw[e];exact step_none gl ga ha hs P σ sp w H i h
end
theorem do_len (P:Par)(σ:Ar)(sp:List Sp)(kd i:Int):(doP P σ sp kd i).2.2.length=sp.length:=by
 unfold doP;split
 ·unfold stepP
  split
  ·simp
  split
  ·simp
  split
  ·simp
  ·rfl
 split
 ·show(askS sp i).length=_
  unfold askS;split
  ·rw[List.length_set]
  ·rfl
 split
 ·exact turnS_len _ _ _ _
 split<;>rfl
theorem do_ops (P:Par)(σ:Ar)(sp:List Sp)(kd i:Int):(doP P σ sp kd i).2.1.ops≤σ.ops+1∧σ.ops≤(doP P σ sp kd i).2.1.ops:=by
 have h:∀(kd p v:Int) (wr:Bool),(σ.op kd p wr v).ops≤σ.ops+1∧σ.ops≤(σ.op kd p wr v).ops:=by
  intro kd p v wr;rw[op_ops];split<;>omega
 have h0:σ.ops≤σ.ops+1∧σ.ops≤σ.ops:=⟨Nat.le_succ _,Nat.le_refl _⟩;unfold doP;split
 ·unfold stepP
  split
  ·exact h _ _ _ _
  split
  ·exact h0
  split
  ·exact h _ _ _ _
  ·exact h0
 split
 ·exact h0
 split
 ·exact h0
 split
 ·exact h0
 ·exact h0
structure OkP (P:Par)(σ:Ar)(sp:List Sp)(n m:Nat):Prop where
 inv:Inv P σ sp
 ops:σ.ops≤m+1
 len:sp.length=n
section
variable {P:Par}{σ:Ar}{sp:List Sp}{n m:Nat}(h:OkP P σ sp n m)
include h
theorem OkP.act (kd i:Int):OkP P (doP P σ sp kd i).2.1 (doP P σ sp kd i).2.2 n (m+1):=
 ⟨do_inv h.inv kd i,by have:=do_ops P σ sp kd i;have:=h.ops;omega,(do_len P σ sp kd i).trans h.len⟩
theorem OkP.one:cnt (fun s=>s.pc==10) sp n≤1:=h.inv.one n
end
theorem zero_spot (n:Nat)(i:Int):spOf (zeroS n) i=sp0:=by
 unfold spOf zeroS;split
 ·simp[List.getD_eq_getElem?_getD,List.getElem?_replicate]
  split<;>rfl
 ·rfl
end Go.Proofs.YtfmiioddhpkdkaaGreat.Ta
namespace Go.Proofs.YtfmiioddhpkdkaaGreat.Pt
open Go.RowKit Go.Proofs.YtfmiioddhpkdkaaGreat.Ara Go.Proofs.YtfmiioddhpkdkaaGreat.Lok
structure St where
 σ:Ar
 sp:List Sp
 doors:List Int
 held:List Int
def ordS (P:Par)(x:St)(c:Ac):St:=
 {σ:=(doP P x.σ x.sp c.kind c.i).2.1,sp:=(doP P x.σ x.sp c.kind c.i).2.2,
  doors:=if c.kind=0∧0<(spOf x.sp c.i).pc∧(spOf x.sp c.i).pc<10∧x.σ.ops<(doP P x.σ x.sp c.kind c.i).2.1.ops∧(doP P x.σ x.sp c.kind c.i).2.1.kind=5 then x.doors++ [c.i]else x.doors,
  held:=if(spOf x.sp c.i).pc<10∧(spOf (doP P x.σ x.sp c.kind c.i).2.2 c.i).pc=10 then x.held++ [c.i]else x.held}
def inn (s:Sp):Prop:=s.pc=10∨s.pc=11
structure OrdI (P:Par)(x:St)(S T:Nat):Prop where
 inv:Inv P x.σ x.sp S T
 dl:x.doors.length=T
 dat:∀i,inq (spOf x.sp i)→x.doors[(spOf x.sp i).a.toNat]? =some i
 take:x.held=x.doors.take x.held.length
 cnt:((∃i,inn (spOf x.sp i))∧x.held.length=S+1)∨((∀i,¬inn (spOf x.sp i))∧x.held.length=S)
def OrdP (P:Par)(x:St):Prop:=∃S T,OrdI P x S T
theorem OrdI.keep {P:Par}{x:St}{S T:Nat}(h:OrdI P x S T){σ':Ar}{sp':List Sp}(hi:Inv P σ' sp' S T)(hq:∀i,inq (spOf sp' i)→inq (spOf x.sp i)∧(spOf sp' i).a=(spOf x.sp i).a)(hn:∀i,inn (spOf sp' i)↔inn (spOf x.sp i)):
 OrdI P {σ:=σ',sp:=sp',doors:=x.doors,held:=x.held} S T:=by
 refine⟨hi,h.dl,fun i h1=> ?_,h.take,?_⟩
 ·obtain⟨h2,e⟩:=hq i h1
  show x.doors[_]? =_;rw[e];exact h.dat i h2
 ·rcases h.cnt with⟨⟨i,h1⟩,e⟩|⟨h1,e⟩
  ·exact .inl ⟨⟨i,(hn i).2 h1⟩,e⟩
  ·exact .inr ⟨fun i h2=>h1 i ((hn i).1 h2),e⟩
theorem OrdI.doors {P:Par}{x:St}{S T:Nat}(h:OrdI P x S T){c:Ac}(hd:¬(c.kind=0∧0<(spOf x.sp c.i).pc∧(spOf x.sp c.i).pc<10∧x.σ.ops<(doP P x.σ x.sp c.kind c.i).2.1.ops∧(doP P x.σ x.sp c.kind c.i).2.1.kind=5))(hh:¬((spOf x.sp c.i).pc<10∧(spOf (doP P x.σ x.sp c.kind c.i).2.2 c.i).pc=10)):
 ordS P x c={σ:=(doP P x.σ x.sp c.kind c.i).2.1,sp:=(doP P x.σ x.sp c.kind c.i).2.2,doors:=x.doors,held:=x.held}:=by
 unfold ordS;rw[if_neg hd,if_neg hh]
theorem do_0 (P:Par)(σ:Ar)(sp:List Sp)(i:Int):doP P σ sp 0 i=stepP P σ sp i:=rfl
theorem step_1 {P:Par}{σ:Ar}{sp:List Sp}{i:Int}(h:(spOf sp i).pc=1):stepP P σ sp i=(false,σ.op 5 P.next true (σ.get P.next+1),sp.set i.toNat {spOf sp i with pc:=2,a:=σ.get P.next}):=by
 unfold stepP;rw[if_pos h]
theorem step_2 {P:Par}{σ:Ar}{sp:List Sp}{i:Int}(h:(spOf sp i).pc=2):stepP P σ sp i=(σ.get (place P (spOf sp i).a)==(spOf sp i).a+1,σ.op 1 (place P (spOf sp i).a) false 0,if σ.get (place P (spOf sp i).a)=(spOf sp i).a+1 then sp.set i.toNat {spOf sp i with pc:=10}else sp):=by
 unfold stepP;rw[if_neg (by omega),if_pos h]
theorem step_11 {P:Par}{σ:Ar}{sp:List Sp}{i:Int}(h:(spOf sp i).pc=11):stepP P σ sp i=(true,σ.op 2 (place P ((spOf sp i).a+1)) true ((spOf sp i).a+2),sp.set i.toNat {spOf sp i with pc:=0}):=by
 unfold stepP;rw[if_neg (by omega),if_neg (by omega),if_pos h]
theorem step_no {P:Par}{σ:Ar}{sp:List Sp}{i:Int}(h1:(spOf sp i).pc≠1)(h2:(spOf sp i).pc≠2)(h3:(spOf sp i).pc≠11):stepP P σ sp i=(false,σ,sp):=by
 unfold stepP;rw[if_neg h1,if_neg h2,if_neg h3]
theorem do_len (P:Par)(σ:Ar)(sp:List Sp)(kd i:Int):(doP P σ sp kd i).2.2.length=sp.length:=by
 unfold doP;split
 ·unfold stepP
  split
  ·simp
  split
  ·simp only;split<;>simp
  split
  ·simp
  ·rfl
 split
 ·exact turnS_len _ _ _ _
 split
 ·exact turnS_len _ _ _ _
 split<;>rfl
theorem do_ops (P:Par)(σ:Ar)(sp:List Sp)(kd i:Int):(doP P σ sp kd i).2.1.ops≤σ.ops+1∧σ.ops≤(doP P σ sp kd i).2.1.ops:=by
 have h:∀(kd p v:Int) (wr:Bool),(σ.op kd p wr v).ops≤σ.ops+1∧σ.ops≤(σ.op kd p wr v).ops:=by
  intro kd p v wr;rw[op_ops];split<;>omega
 unfold doP;split
 ·unfold stepP
  split
  ·exact h _ _ _ _
  split
  ·exact h _ _ _ _
  split
  ·exact h _ _ _ _
  ·exact⟨Nat.le_succ _,Nat.le_refl _⟩
 split
 ·exact⟨Nat.le_succ _,Nat.le_refl _⟩
 split
 ·exact⟨Nat.le_succ _,Nat.le_refl _⟩
 split
 ·unfold aloneP
  split
  ·exact h _ _ _ _
  ·exact⟨Nat.le_succ _,Nat.le_refl _⟩
 ·exact⟨Nat.le_succ _,Nat.le_refl _⟩
end Go.Proofs.YtfmiioddhpkdkaaGreat.Pt
namespace Go.Proofs.YtfmiioddhpkdkaaGreat.Pt
open Go.RowKit Go.Proofs.YtfmiioddhpkdkaaGreat.Ara Go.Proofs.YtfmiioddhpkdkaaGreat.Lok
theorem Inv.num {P:Par}{σ:Ar}{sp:List Sp}{S T:Nat}(h:Inv P σ sp S T)(hT:T≤1000000)(ho:σ.ops≤1000000)(hn:P.next≤4096):Num P σ sp:=by
 refine⟨⟨h.p1,h.p2,h.n1,hn⟩,fun k hk=> ?_,ho,h.hasN,?_,?_⟩
 ·have:=h.rng k
  rw[spOf_in hk]at this;omega
 ·rw[h.gT];omega
 ·rw[h.gT];omega
structure OkP (P:Par)(σ:Ar)(sp:List Sp)(n m:Nat):Prop where
 inv:∃S T,Inv P σ sp S T∧T≤m
 ops:σ.ops≤m+1
 nx:P.next≤4096
 len:sp.length=n
section
variable {P:Par}{σ:Ar}{sp:List Sp}{n m:Nat}(h:OkP P σ sp n m)
include h
theorem OkP.act (kd i:Int):OkP P (doP P σ sp kd i).2.1 (doP P σ sp kd i).2.2 n (m+1):=by
 obtain⟨S,T,hi,hT⟩:=h.inv;obtain⟨S',T',hT',hi'⟩:=do_inv hi kd i;exact⟨⟨S',T',hi',by omega⟩,by have:=do_ops P σ sp kd i;have:=h.ops;omega,h.nx,(do_len P σ sp kd i).trans h.len⟩
theorem OkP.num (hm:m≤100000):Num P σ sp:=by
 obtain⟨S,T,hi,hT⟩:=h.inv;exact hi.num (by omega) (by have:=h.ops;omega) h.nx
theorem OkP.one:cnt (fun s=>s.pc==10) sp n≤1:=by
 obtain⟨S,T,hi,hT⟩:=h.inv;exact hi.one n
theorem OkP.behind (i:Int)(hp:(spOf sp i).pc=10)(ha:(doP P σ sp 3 i).1=false):0<cnt (fun s=>decide (0<s.pc)&&decide (s.pc<10)) sp n:=by
 obtain⟨S,T,hi,hT⟩:=h.inv;rw[←h.len];exact hi.behind i hp ha
end
def first1 (P:Par)(n:Nat):Ar×List Sp:=((⟨zerosW 100,(1+P.parts).toNat,0,0,0,false⟩:Ar).op 2 (place P 0) true 1,zeroS n)
theorem OkP.first {parts:Int}(p1:1≤parts)(p2:parts≤32)(n:Nat):OkP ⟨1,parts⟩ (first1 ⟨1,parts⟩ n).1 (first1 ⟨1,parts⟩ n).2 n 0:=by
 refine⟨⟨0,0,inv_start parts p1 p2 n,Nat.le_refl _⟩,?_,by show(1:Int)≤4096;decide,by simp[first1,zeroS]⟩;show(Ar.op _ _ _ _ _).ops≤1;rw[op_ops];show 0+_≤1;split<;>omega
end Go.Proofs.YtfmiioddhpkdkaaGreat.Pt
namespace Go.Proofs.YtfmiioddhpkdkaaGreat.Mc
open Go.RowKit Go.Proofs.YtfmiioddhpkdkaaGreat.Ara Go.Proofs.YtfmiioddhpkdkaaGreat.Lok
theorem Inv.num {P:Par}{σ:Ar}{sp:List Sp}{q:List Int}(h:Inv P σ sp q)(hl:sp.length≤32)(ho:σ.ops≤1000000)(hn:P.tail≤4096):Num P σ sp:=by
 refine⟨⟨h.t1,hn⟩,fun k hk=> ?_,ho⟩;have h1:=h.ar (k:Int);have h2:=h.pcs (k:Int);rw[spOf_in hk]at h1 h2;unfold inq outs at h2;unfold pcOk;omega
structure OkP (P:Par)(σ:Ar)(sp:List Sp)(n m:Nat):Prop where
 inv:∃q,Inv P σ sp q
 ops:σ.ops≤m+1
 nx:P.tail≤4096
 len:sp.length=n
 small:n≤32
section
variable {P:Par}{σ:Ar}{sp:List Sp}{n m:Nat}(h:OkP P σ sp n m)
include h
theorem OkP.act (kd i:Int):OkP P (doP P σ sp kd i).2.1 (doP P σ sp kd i).2.2 n (m+1):=by
 obtain⟨q,hi⟩:=h.inv;obtain⟨q',hi'⟩:=do_inv hi kd i;exact⟨⟨q',hi'⟩,by have:=do_ops P σ sp kd i;have:=h.ops;omega,h.nx,(do_len P σ sp kd i).trans h.len,h.small⟩
theorem OkP.num (hm:m≤100000):Num P σ sp:=by
 obtain⟨q,hi⟩:=h.inv;exact hi.num (by have:=h.len;have:=h.small;omega) (by have:=h.ops;omega) h.nx
theorem OkP.one:cnt (fun s=>s.pc==10) sp n≤1:=by
 obtain⟨q,hi⟩:=h.inv;exact hi.one n
theorem OkP.behind (i:Int)(hp:(spOf sp i).pc=10)(ha:(doP P σ sp 3 i).1=false):0<cnt (fun s=>decide (0<s.pc)&&decide (s.pc<10)) sp n:=by
 obtain⟨q,hi⟩:=h.inv;rw[←h.len];exact hi.behind i hp ha
end
def first1 (n:Nat):Ar×List Sp:=((⟨zerosW 100,1+2*n,0,0,0,false⟩:Ar),zeroS n)
theorem OkP.first (n:Nat)(hn:n≤32):OkP ⟨1⟩ (first1 n).1 (first1 n).2 n 0:=
 ⟨⟨_,inv_start n hn⟩,by show 0≤0+1;omega,by show(1:Int)≤4096;decide,by simp[first1,zeroS],hn⟩
end Go.Proofs.YtfmiioddhpkdkaaGreat.Mc
namespace Go.Proofs.YtfmiioddhpkdkaaGreat.Cl
open Go.RowKit Go.Proofs.YtfmiioddhpkdkaaGreat.Ara Go.Proofs.YtfmiioddhpkdkaaGreat.Lok
structure Par where
 tail:Int
def box (P:Par)(n:Int):Int:=P.tail+n
def stepP (P:Par)(σ:Ar)(sp:List Sp)(i:Int):Bool×Ar×List Sp:=
 if(spOf sp i).pc=1 then(false,σ.op 2 (box P (spOf sp i).a) true 1,sp.set i.toNat {spOf sp i with pc:=2})
 else if(spOf sp i).pc=2 then(false,σ.op 3 (box P 0) true (spOf sp i).a,sp.set i.toNat {spOf sp i with pc:=3,b:=σ.get (box P 0)})
 else if(spOf sp i).pc=3 then(σ.get (box P (spOf sp i).b)==0,σ.op 1 (box P (spOf sp i).b) false 0,if σ.get (box P (spOf sp i).b)=0 then sp.set i.toNat {spOf sp i with pc:=10}else sp)
 else if(spOf sp i).pc=11 then(true,σ.op 2 (box P (spOf sp i).a) true 0,sp.set i.toNat {spOf sp i with pc:=0,a:=(spOf sp i).b})
 else(false,σ,sp)
def aloneP (P:Par)(σ:Ar)(sp:List Sp)(i:Int):Bool×Ar:=
 if(spOf sp i).pc=10 then(σ.get P.tail==(spOf sp i).a,σ.op 1 P.tail false 0)else(false,σ)
def doP (P:Par)(σ:Ar)(sp:List Sp)(kd i:Int):Bool×Ar×List Sp:=
 if kd=0 then stepP P σ sp i else if kd=1 then(turnB sp i 0,σ,turnS sp i 0 1)else if kd=2 then(turnB sp i 10,σ,turnS sp i 10 11)
 else if kd=3 then((aloneP P σ sp i).1,(aloneP P σ sp i).2,sp)else(false,σ,sp)
def inn (s:Sp):Prop:=s.pc=10∨s.pc=11
def inq (s:Sp):Prop:=s.pc=3∨inn s
def Chain (sp:List Sp):Int→List Int→Prop
 |_,[]=>True
 |z,i::q=>(spOf sp i).b=z∧Chain sp (spOf sp i).a q
def lastA (sp:List Sp):Int→List Int→Int
 |z,[]=>z
 |_,i::q=>lastA sp (spOf sp i).a q
theorem Chain.same {sp sp':List Sp}{z:Int}{q:List Int}(h:Chain sp z q)(he:∀j,j∈q→(spOf sp' j).a=(spOf sp j).a∧(spOf sp' j).b=(spOf sp j).b):Chain sp' z q:=by
 induction q generalizing z with
 |nil=>trivial
 |cons i q ih=>
  obtain⟨h1,h2⟩:=h;have e:=he i (by simp);refine⟨by rw[e.2];exact h1,?_⟩;rw[e.1];exact ih h2 (fun j hj=>he j (by simp[hj]))
theorem lastA_same {sp sp':List Sp}{z:Int}{q:List Int}(he:∀j,j∈q→(spOf sp' j).a=(spOf sp j).a):lastA sp' z q=lastA sp z q:=by
 induction q generalizing z with
 |nil=>rfl
 |cons i q ih=>
  show lastA sp' (spOf sp' i).a q=lastA sp (spOf sp i).a q;rw[he i (by simp)];exact ih (fun j hj=>he j (by simp[hj]))
theorem Chain.push {sp:List Sp}{z:Int}{q:List Int}{i:Int}(h:Chain sp z q)(hb:(spOf sp i).b=lastA sp z q):Chain sp z (q++ [i]):=by
 induction q generalizing z with
 |nil=>exact⟨hb,trivial⟩
 |cons j q ih=>exact⟨h.1,ih h.2 hb⟩
theorem lastA_push (sp:List Sp)(z:Int)(q:List Int)(i:Int):lastA sp z (q++ [i])=(spOf sp i).a:=by
 induction q generalizing z with
 |nil=>rfl
 |cons j q ih=>exact ih _
theorem lastA_mem (sp:List Sp)(z:Int)(q:List Int):(q=[]∧lastA sp z q=z)∨∃j,j∈q∧q.getLast? =some j∧lastA sp z q=(spOf sp j).a:=by
 induction q generalizing z with
 |nil=>exact .inl ⟨rfl,rfl⟩
 |cons i q ih=>
  right;rcases ih (spOf sp i).a with⟨e,h⟩|⟨j,j1,j2,j3⟩
  ·subst e
   exact⟨i,by simp,rfl,h⟩
  ·refine⟨j,by simp[j1],?_,j3⟩
   cases q with
   |nil=>simp at j1
   |cons k q=>rw[List.getLast?_cons_cons];exact j2
theorem Chain.not_first {sp:List Sp}{z:Int}{q:List Int}(h:Chain sp z q){i:Int}(hi:i∈q):(q.head? =some i∧(spOf sp i).b=z)∨∃j,j∈q∧(spOf sp i).b=(spOf sp j).a:=by
 induction q generalizing z with
 |nil=>simp at hi
 |cons k q ih=>
  rcases List.mem_cons.1 hi with rfl|hi
  ·exact .inl ⟨rfl,h.1⟩
  ·rcases ih h.2 hi with⟨_,e⟩|⟨j,j1,j2⟩
   ·exact .inr ⟨k,by simp,e⟩
   ·exact .inr ⟨j,by simp[j1],j2⟩
structure Inv (P:Par)(σ:Ar)(sp:List Sp)(z:Int)(q:List Int):Prop where
 hl:σ.t≤σ.ws.length
 t1:1≤P.tail
 t2:P.tail+sp.length+1≤σ.t
 zr:1≤z∧z≤sp.length+1
 ar:∀i:Int,0≤i→i<sp.length→1≤(spOf sp i).a∧(spOf sp i).a≤sp.length+1
 br:∀i,0≤(spOf sp i).b∧(spOf sp i).b≤sp.length+1
 pcs:∀i,(spOf sp i).pc=0∨(spOf sp i).pc=1∨(spOf sp i).pc=2∨inq (spOf sp i)
 mem:∀i,i∈q↔inq (spOf sp i)
 nd:q.Nodup
 first:∀i,inn (spOf sp i)→q.head? =some i
 inj:∀i j:Int,0≤i→i<sp.length→0≤j→j<sp.length→(spOf sp i).a=(spOf sp j).a→i=j
 nz:∀i:Int,0≤i→i<sp.length→(spOf sp i).a≠z
 ch:Chain sp z q
 gz:σ.get (box P z)=0
 g1:∀i,(spOf sp i).pc=2∨inq (spOf sp i)→σ.get (box P (spOf sp i).a)=1
 gT:σ.get P.tail=lastA sp z q
theorem inq_range {sp:List Sp}{i:Int}(h:inq (spOf sp i)):0≤i∧i<sp.length:=spOf_range (by unfold inq inn at h;omega)
section
variable {P:Par}{σ:Ar}{sp:List Sp}{z:Int}{q:List Int}(h:Inv P σ sp z q)
include h
theorem Inv.has (n:Int)(h0:0≤n)(h1:n≤sp.length+1):σ.has (box P n)=true:=by
 have:=h.t1;have:=h.t2;unfold Ar.has box;rw[decide_eq_true (by omega),decide_eq_true (by omega)];rfl
theorem Inv.hasT:σ.has P.tail=true:=by
 have:=h.has 0 (by omega) (by omega);simpa[box]using this
theorem Inv.read (p v:Int):Inv P (σ.op 1 p false v) sp z q:=by
 refine {h with hl:= ?_,t2:= ?_,gz:= ?_,g1:= ?_,gT:= ?_}
 ·rw[op_t,op_len];exact h.hl
 ·rw[op_t];exact h.t2
 ·rw[get_read σ h.hl];exact h.gz
 ·intro i hi
  rw[get_read σ h.hl];exact h.g1 i hi
 ·rw[get_read σ h.hl];exact h.gT
theorem Inv.turns {sp':List Sp}(hlen:sp'.length=sp.length)(i:Int)(s':Sp)(hs:∀j,spOf sp' j=if j=i then s' else spOf sp j)(ha:s'.a=(spOf sp i).a)(hb:s'.b=(spOf sp i).b)(hp:s'.pc=0∨s'.pc=1∨s'.pc=2∨inq s')
 (hq:inq s'↔inq (spOf sp i)) (hn:inn s'→q.head? =some i) (h2:s'.pc=2→σ.get (box P (spOf sp i).a)=1):Inv P σ sp' z q:=by
 have hA:∀j,(spOf sp' j).a=(spOf sp j).a:=by
  intro j;rw[hs];split
  ·rename_i e;subst e;exact ha
  ·rfl
 have hB:∀j,(spOf sp' j).b=(spOf sp j).b:=by
  intro j;rw[hs];split
  ·rename_i e;subst e;exact hb
  ·rfl
 have hQ:∀j,inq (spOf sp' j)↔inq (spOf sp j):=by
  intro j;rw[hs];split
  ·rename_i e;subst e;exact hq
  ·exact Iff.rfl
 refine {hl:=h.hl,t1:=h.t1,nd:=h.nd,gz:=h.gz,t2:= ?_,zr:= ?_,ar:= ?_,br:= ?_,pcs:= ?_,mem:= ?_,first:= ?_,inj:= ?_,nz:= ?_,ch:= ?_,g1:= ?_,gT:= ?_}
 ·rw[hlen];exact h.t2
 ·rw[hlen];exact h.zr
 ·intro j;rw[hA,hlen];exact h.ar j
 ·intro j;rw[hB,hlen];exact h.br j
 ·intro j;rw[hs];split
  ·exact hp
  ·exact h.pcs j
 ·intro j;rw[hQ];exact h.mem j
 ·intro j hj
  rw[hs]at hj;split at hj
  ·rename_i e;subst e;exact hn hj
  ·exact h.first j hj
 ·intro j k;rw[hA,hA,hlen];exact h.inj j k
 ·intro j;rw[hA,hlen];exact h.nz j
 ·exact h.ch.same (fun j _=>⟨hA j,hB j⟩)
 ·intro j hj
  rw[hA];rw[hs]at hj;split at hj
  ·rename_i e;subst e
   rcases hj with hj|hj
   ·exact h2 hj
   ·exact h.g1 j (.inr (hq.1 hj))
  ·exact h.g1 j hj
 ·rw[lastA_same (fun j _=>hA j)];exact h.gT
theorem Inv.lays (i:Int)(i0:0≤i)(i1:i<sp.length)(v:Int)(hv:((spOf sp i).pc=2∨inq (spOf sp i))→v=1)(hT:(spOf sp i).a≠0):Inv P (σ.op 2 (box P (spOf sp i).a) true v) sp z q∧(σ.op 2 (box P (spOf sp i).a) true v).get (box P (spOf sp i).a)=v:=by
 have hr:=h.ar i i0 i1;have hh:=h.has (spOf sp i).a (by omega) (by omega);have hg:=fun p=>get_op σ h.hl 2 (box P (spOf sp i).a) v true p;simp only[hh,true_and]at hg;refine⟨{h with hl:= ?_,t2:= ?_,gz:= ?_,g1:= ?_,gT:= ?_},by rw[hg,if_pos rfl]⟩
 ·rw[op_t,op_len];exact h.hl
 ·rw[op_t];exact h.t2
 ·rw[hg,if_neg (by have:=h.nz i i0 i1;unfold box;omega)];exact h.gz
 ·intro j hj
  rw[hg];split
  ·rename_i e
   obtain⟨j0,j1⟩:=spOf_range (sp:=sp) (i:=j) (by unfold inq inn at hj;omega);have:=h.inj j i j0 j1 i0 i1 (by unfold box at e;omega);subst this;exact hv hj
  ·exact h.g1 j hj
 ·rw[hg,if_neg (by unfold box;omega)];exact h.gT
theorem Inv.takes {sp':List Sp}(hlen:sp'.length=sp.length)(i:Int)(h2:(spOf sp i).pc=2)(hs:∀j,spOf sp' j=if j=i then {spOf sp i with pc:=3,b:=σ.get P.tail}else spOf sp j):Inv P (σ.op 3 P.tail true (spOf sp i).a) sp' z (q++ [i]):=by
 obtain⟨i0,i1⟩:=spOf_range (sp:=sp) (i:=i) (by omega);have hni:i∉q:=fun hi=>by have:=(h.mem i).1 hi;unfold inq inn at this;omega
 have hA:∀j,(spOf sp' j).a=(spOf sp j).a:=by
  intro j;rw[hs];split
  ·rename_i e;subst e;rfl
  ·rfl
 have hO:∀j,j∈q→spOf sp' j=spOf sp j:=by
  intro j hj;have e:j≠i:=fun e=>hni (e▸hj);rw[hs,if_neg e]
 have hr:=h.ar i i0 i1;have hg:=fun p=>get_op σ h.hl 3 P.tail (spOf sp i).a true p;simp only[h.hasT,true_and]at hg
 have hlast:(spOf sp' i).b=lastA sp' z q:=by
  rw[hs,if_pos rfl,lastA_same (fun j hj=>hA j)];exact h.gT
 refine {t1:=h.t1,hl:= ?_,nd:= ?_,gz:= ?_,t2:= ?_,zr:= ?_,ar:= ?_,br:= ?_,pcs:= ?_,mem:= ?_,first:= ?_,inj:= ?_,nz:= ?_,ch:= ?_,g1:= ?_,gT:= ?_}
 ·rw[op_t,op_len];exact h.hl
 ·rw[hlen,op_t];exact h.t2
 ·rw[hlen];exact h.zr
 ·intro j;rw[hA,hlen];exact h.ar j
 ·intro j;rw[hs,hlen];split
  ·show 0≤σ.get P.tail∧σ.get P.tail≤_
   rw[h.gT];have hz:=h.zr;rcases lastA_mem sp z q with⟨_,e⟩|⟨k,k1,_,e⟩
   ·rw[e];omega
   ·rw[e]
    obtain⟨k0,k2⟩:=inq_range ((h.mem k).1 k1);have:=h.ar k k0 k2;omega
  ·exact h.br j
 ·intro j;rw[hs];split
  ·exact .inr (.inr (.inr (.inl rfl)))
  ·exact h.pcs j
 ·intro j
  rw[List.mem_append,List.mem_singleton,hs];by_cases e:j=i
  ·rw[if_pos e]
   exact⟨fun _=> .inl rfl,fun _=> .inr e⟩
  ·rw[if_neg e]
   exact⟨fun hj=>hj.elim (h.mem j).1 (fun e'=>absurd e' e),fun hj=> .inl ((h.mem j).2 hj)⟩
 ·rw[List.nodup_append]
  refine⟨h.nd,by simp,fun a ha b hb e=> ?_⟩;simp at hb;subst hb;exact hni (e▸ha)
 ·intro j hj
  rw[hs]at hj;split at hj
  ·unfold inn at hj;simp at hj
  ·have:=h.first j hj
   cases q with
   |nil=>simp at this
   |cons k q=>simpa using this
 ·intro j k;rw[hA,hA,hlen];exact h.inj j k
 ·intro j;rw[hA,hlen];exact h.nz j
 ·exact(h.ch.same (fun j hj=>by rw[hO j hj];exact⟨rfl,rfl⟩)).push hlast
 ·rw[hg,if_neg (by have:=h.zr;unfold box;omega)];exact h.gz
 ·intro j hj
  rw[hA]
  have hj2:(spOf sp j).pc=2∨inq (spOf sp j):=by
   rw[hs]at hj;split at hj
   ·rename_i e;subst e;exact .inl h2
   ·exact hj
  obtain⟨j0,j1⟩:=spOf_range (sp:=sp) (i:=j) (by unfold inq inn at hj2;omega);rw[hg,if_neg (by have:=h.ar j j0 j1;unfold box;omega)];exact h.g1 j hj2
 ·rw[lastA_push,hA,hg,if_pos rfl]
theorem Inv.head (i:Int)(h3:inq (spOf sp i))(hg:σ.get (box P (spOf sp i).b)=0):q.head? =some i:=by
 rcases h.ch.not_first ((h.mem i).2 h3)with⟨e,_⟩|⟨j,j1,j2⟩
 ·exact e
 ·have:=h.g1 j (.inr ((h.mem j).1 j1))
  rw[j2]at hg;omega
theorem Inv.leaves {sp':List Sp}(hlen:sp'.length=sp.length)(i:Int)(h11:(spOf sp i).pc=11)(hs:∀j,spOf sp' j=if j=i then {spOf sp i with pc:=0,a:=(spOf sp i).b}else spOf sp j):Inv P (σ.op 2 (box P (spOf sp i).a) true 0) sp' (spOf sp i).a q.tail:=by
 obtain⟨i0,i1⟩:=spOf_range (sp:=sp) (i:=i) (by omega);have hf:=h.first i (.inr h11);cases q with
 |nil=>simp at hf
 |cons k q=>
  obtain rfl:k=i:=by simpa using hf
  have hnd:=h.nd;rw[List.nodup_cons]at hnd;obtain⟨hkq,hnd⟩:=hnd;obtain⟨hb,hch⟩:=h.ch;have hr:=h.ar k i0 i1;have hz:=h.zr;have hh:=h.has (spOf sp k).a (by omega) (by omega);have hg:=fun p=>get_op σ h.hl 2 (box P (spOf sp k).a) 0 true p;simp only[hh,true_and]at hg;have hO:∀j,j≠k→spOf sp' j=spOf sp j:=fun j e=>by rw[hs,if_neg e]
  have hK:spOf sp' k={spOf sp k with pc:=0,a:=z}:=by rw[hs,if_pos rfl,hb]
  have hKa:(spOf sp' k).a=z:=by rw[hK]
  refine {t1:=h.t1,nd:=hnd,hl:= ?_,gz:= ?_,t2:= ?_,zr:= ?_,ar:= ?_,br:= ?_,pcs:= ?_,mem:= ?_,first:= ?_,inj:= ?_,nz:= ?_,ch:= ?_,g1:= ?_,gT:= ?_}
  ·rw[op_t,op_len];exact h.hl
  ·rw[hlen,op_t];exact h.t2
  ·rw[hlen];exact hr
  ·intro j j0 j1
   rw[hlen]at j1;by_cases e:j=k
   ·subst e;rw[hKa,hlen];exact hz
   ·rw[hO j e,hlen];exact h.ar j j0 j1
  ·intro j
   by_cases e:j=k
   ·subst e;rw[hK,hlen];exact h.br j
   ·rw[hO j e,hlen];exact h.br j
  ·intro j
   by_cases e:j=k
   ·subst e;rw[hK];exact .inl rfl
   ·rw[hO j e];exact h.pcs j
  ·intro j
   by_cases e:j=k
   ·subst e
    rw[hK];exact⟨fun hj=>absurd hj hkq,fun hj=>by unfold inq inn at hj;simp at hj⟩
   ·rw[hO j e,←h.mem j]
    simp[e]
  ·intro j hj
   by_cases e:j=k
   ·subst e;rw[hK]at hj;unfold inn at hj;simp at hj
   ·rw[hO j e]at hj
    have:=h.first j hj;simp at this;exact absurd this.symm e
  ·intro j l j0 j1 l0 l1 e
   rw[hlen]at j1 l1;by_cases ej:j=k
   ·by_cases el:l=k
    ·rw[ej,el]
    ·rw[ej,hKa,hO l el]at e
     exact absurd e.symm (h.nz l l0 l1)
   ·by_cases el:l=k
    ·rw[el,hKa,hO j ej]at e
     exact absurd e (h.nz j j0 j1)
    ·rw[hO j ej,hO l el]at e
     exact h.inj j l j0 j1 l0 l1 e
  ·intro j j0 j1
   rw[hlen]at j1;by_cases e:j=k
   ·rw[e,hKa];exact fun e2=>h.nz k i0 i1 e2.symm
   ·rw[hO j e];exact fun e2=>e (h.inj j k j0 j1 i0 i1 e2)
  ·exact hch.same (fun j hj=>by rw[hO j (fun e=>hkq (e▸hj))];exact⟨rfl,rfl⟩)
  ·rw[hg,if_pos rfl]
  ·intro j hj
   have e:j≠k:=by rintro rfl;rw[hK]at hj;unfold inq inn at hj;simp at hj
   rw[hO j e]at hj⊢;obtain⟨j0,j1⟩:=spOf_range (sp:=sp) (i:=j) (by unfold inq inn at hj;omega);rw[hg,if_neg (by intro e2;exact e (h.inj j k j0 j1 i0 i1 (by unfold box at e2;omega)))];exact h.g1 j hj
  ·rw[hg,if_neg (by unfold box;omega),h.gT]
   show lastA sp (spOf sp k).a q=_;exact(lastA_same (fun j hj=>by rw[hO j (fun e=>hkq (e▸hj))])).symm
theorem Inv.one (n:Nat):cnt (fun s=>s.pc==10) sp n≤1:=by
 refine cnt_one _ _ (fun i j hi hj=> ?_) n;simp only[beq_iff_eq]at hi hj;have h1:=h.first i (.inl hi);have h2:=h.first j (.inl hj);rw[h1]at h2;exact Option.some.inj h2
theorem Inv.behind (i:Int)(hp:(spOf sp i).pc=10)(ha:(aloneP P σ sp i).1=false):0<cnt (fun s=>decide (0<s.pc)&&decide (s.pc<10)) sp sp.length:=by
 unfold aloneP at ha;rw[if_pos hp,h.gT]at ha;simp at ha;have hf:=h.first i (.inl hp);cases q with
 |nil=>simp at hf
 |cons k q=>
  obtain rfl:k=i:=by simpa using hf
  cases q with
  |nil=>exact absurd rfl ha
  |cons m q=>
   have hm:=(h.mem m).1 (by simp);have hnd:=h.nd
   have h3:(spOf sp m).pc=3:=by
    rcases hm with hm|hm
    ·exact hm
    ·have:=h.first m hm
     simp at this;rw[this]at hnd;simp at hnd
   obtain⟨r0,r1⟩:=spOf_range (sp:=sp) (i:=m) (by omega);exact cnt_some _ _ m (by rw[h3];rfl) r0 _ r1
end
end Go.Proofs.YtfmiioddhpkdkaaGreat.Cl
