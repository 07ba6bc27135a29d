/- Merged texts: ClO, Cl1. -/
import Derived.Test.YtfmiioddhpkdkaaGreatWh13
set_option linter.unusedVariables false
set_option linter.unusedSimpArgs false
namespace Go.Proofs.YtfmiioddhpkdkaaGreat.Cl
open Go.RowKit Go.Proofs.YtfmiioddhpkdkaaGreat.Ara Go.Proofs.YtfmiioddhpkdkaaGreat.Lok
structure St where
 σ:Ar
 sp:List Sp
 doors:List Int
 held:List Int
def ordS (P:Par)(x:St)(c:Ac):St:=
 {σ:=(doP P x.σ x.sp c.kind c.i).2.1,sp:=(doP P x.σ x.sp c.kind c.i).2.2,
  doors:=if c.kind=0∧0<(spOf x.sp c.i).pc∧(spOf x.sp c.i).pc<10∧x.σ.ops<(doP P x.σ x.sp c.kind c.i).2.1.ops∧(doP P x.σ x.sp c.kind c.i).2.1.kind=3 then x.doors++ [c.i]else x.doors,
  held:=if(spOf x.sp c.i).pc<10∧(spOf (doP P x.σ x.sp c.kind c.i).2.2 c.i).pc=10 then x.held++ [c.i]else x.held}
structure OrdI (P:Par)(x:St)(z:Int)(q s:List Int):Prop where
 inv:Inv P x.σ x.sp z q
 dl:x.doors=s++q
 hh:(∃i,inn (spOf x.sp i)∧x.held=s++ [i])∨((∀i,¬inn (spOf x.sp i))∧x.held=s)
def OrdP (P:Par)(x:St):Prop:=∃z q s,OrdI P x z q s
theorem OrdI.keep {P:Par}{x:St}{z:Int}{q s:List Int}(h:OrdI P x z q s){σ':Ar}{sp':List Sp}(hi:Inv P σ' sp' z q)(hn:∀i,inn (spOf sp' i)↔inn (spOf x.sp i)):OrdP P {σ:=σ',sp:=sp',doors:=x.doors,held:=x.held}:=by
 refine⟨z,q,s,hi,h.dl,?_⟩;rcases h.hh with⟨i,h1,e⟩|⟨h1,e⟩
 ·exact .inl ⟨i,(hn i).2 h1,e⟩
 ·exact .inr ⟨fun i h2=>h1 i ((hn i).1 h2),e⟩
theorem ord_plain {P:Par}{x:St}{c:Ac}(hd:¬(c.kind=0∧0<(spOf x.sp c.i).pc∧(spOf x.sp c.i).pc<10∧x.σ.ops<(doP P x.σ x.sp c.kind c.i).2.1.ops∧(doP P x.σ x.sp c.kind c.i).2.1.kind=3))(hh:¬((spOf x.sp c.i).pc<10∧(spOf (doP P x.σ x.sp c.kind c.i).2.2 c.i).pc=10)):
 ordS P x c={σ:=(doP P x.σ x.sp c.kind c.i).2.1,sp:=(doP P x.σ x.sp c.kind c.i).2.2,doors:=x.doors,held:=x.held}:=by
 unfold ordS;rw[if_neg hd,if_neg hh]
theorem do_0 (P:Par)(σ:Ar)(sp:List Sp)(i:Int):doP P σ sp 0 i=stepP P σ sp i:=rfl
theorem step_1 {P:Par}{σ:Ar}{sp:List Sp}{i:Int}(h:(spOf sp i).pc=1):stepP P σ sp i=(false,σ.op 2 (box P (spOf sp i).a) true 1,sp.set i.toNat {spOf sp i with pc:=2}):=by
 unfold stepP;rw[if_pos h]
theorem step_2 {P:Par}{σ:Ar}{sp:List Sp}{i:Int}(h:(spOf sp i).pc=2):stepP P σ sp i=(false,σ.op 3 P.tail true (spOf sp i).a,sp.set i.toNat {spOf sp i with pc:=3,b:=σ.get P.tail}):=by
 unfold stepP;rw[if_neg (by omega),if_pos h,show box P 0=P.tail by simp[box]]
theorem step_3 {P:Par}{σ:Ar}{sp:List Sp}{i:Int}(h:(spOf sp i).pc=3):stepP P σ sp i=(σ.get (box P (spOf sp i).b)==0,σ.op 1 (box P (spOf sp i).b) false 0,if σ.get (box P (spOf sp i).b)=0 then sp.set i.toNat {spOf sp i with pc:=10}else sp):=by
 unfold stepP;rw[if_neg (by omega),if_neg (by omega),if_pos h]
theorem step_11 {P:Par}{σ:Ar}{sp:List Sp}{i:Int}(h:(spOf sp i).pc=11):stepP P σ sp i=(true,σ.op 2 (box P (spOf sp i).a) true 0,sp.set i.toNat {spOf sp i with pc:=0,a:=(spOf sp i).b}):=by
 unfold stepP;rw[if_neg (by omega),if_neg (by omega),if_neg (by omega),if_pos h]
theorem step_no {P:Par}{σ:Ar}{sp:List Sp}{i:Int}(h:(spOf sp i).pc=0∨(spOf sp i).pc=10):stepP P σ sp i=(false,σ,sp):=by
 unfold stepP;rw[if_neg (by omega),if_neg (by omega),if_neg (by omega),if_neg (by omega)]
theorem inv_1 {P:Par}{σ:Ar}{sp:List Sp}{z:Int}{q:List Int}(h:Inv P σ sp z q){i:Int}(p:(spOf sp i).pc=1):Inv P (σ.op 2 (box P (spOf sp i).a) true 1) (sp.set i.toNat {spOf sp i with pc:=2}) z q:=by
 obtain⟨i0,i1⟩:=spOf_range (sp:=sp) (i:=i) (by omega);have hr:=h.ar i i0 i1;obtain⟨h1,h2⟩:=h.lays i i0 i1 1 (fun _=>rfl) (by omega);exact h1.turns (by simp) i _ (spOf_set i0 i1 {spOf sp i with pc:=2}) rfl rfl (.inr (.inr (.inl rfl))) (by unfold inq inn;simp only;omega) (fun e=>by unfold inn at e;simp at e) (fun _=>h2)
theorem inv_2 {P:Par}{σ:Ar}{sp:List Sp}{z:Int}{q:List Int}(h:Inv P σ sp z q){i:Int}(p:(spOf sp i).pc=2):Inv P (σ.op 3 P.tail true (spOf sp i).a) (sp.set i.toNat {spOf sp i with pc:=3,b:=σ.get P.tail}) z (q++ [i]):=by
 obtain⟨i0,i1⟩:=spOf_range (sp:=sp) (i:=i) (by omega);exact h.takes (by simp) i p (spOf_set i0 i1 _)
theorem inv_3 {P:Par}{σ:Ar}{sp:List Sp}{z:Int}{q:List Int}(h:Inv P σ sp z q){i:Int}(p:(spOf sp i).pc=3)(hg:σ.get (box P (spOf sp i).b)=0):Inv P (σ.op 1 (box P (spOf sp i).b) false 0) (sp.set i.toNat {spOf sp i with pc:=10}) z q:=by
 obtain⟨i0,i1⟩:=spOf_range (sp:=sp) (i:=i) (by omega);exact(h.turns (by simp) i _ (spOf_set i0 i1 {spOf sp i with pc:=10}) rfl rfl (.inr (.inr (.inr (.inr (.inl rfl))))) ⟨fun _=> .inl p,fun _=> .inr (.inl rfl)⟩ (fun _=>h.head i (.inl p) hg) (fun e=>by simp at e)).read _ _
theorem inv_11 {P:Par}{σ:Ar}{sp:List Sp}{z:Int}{q:List Int}(h:Inv P σ sp z q){i:Int}(p:(spOf sp i).pc=11):Inv P (σ.op 2 (box P (spOf sp i).a) true 0) (sp.set i.toNat {spOf sp i with pc:=0,a:=(spOf sp i).b}) (spOf sp i).a q.tail:=by
 obtain⟨i0,i1⟩:=spOf_range (sp:=sp) (i:=i) (by omega);exact h.leaves (by simp) i p (spOf_set i0 i1 _)
theorem inv_ask {P:Par}{σ:Ar}{sp:List Sp}{z:Int}{q:List Int}(h:Inv P σ sp z q)(i:Int):Inv P σ (turnS sp i 0 1) z q:=by
 cases ht:turnB sp i 0
 ·rw[turn_no 1 ht];exact h
 ·have hp:=(turn_true ht).2
  exact h.turns (turnS_len _ _ _ _) i _ (spOf_turn 1 ht) rfl rfl (.inr (.inl rfl)) (by unfold inq inn;simp only;omega) (fun e=>by unfold inn at e;simp at e) (fun e=>by simp at e)
theorem inv_leave {P:Par}{σ:Ar}{sp:List Sp}{z:Int}{q:List Int}(h:Inv P σ sp z q)(i:Int):Inv P σ (turnS sp i 10 11) z q:=by
 cases ht:turnB sp i 10
 ·rw[turn_no 11 ht];exact h
 ·have hp:=(turn_true ht).2
  exact h.turns (turnS_len _ _ _ _) i _ (spOf_turn 11 ht) rfl rfl (.inr (.inr (.inr (.inr (.inr rfl))))) ⟨fun _=> .inr (.inl hp),fun _=> .inr (.inr rfl)⟩ (fun _=>h.first i (.inl hp)) (fun e=>by simp at e)
theorem inv_alone {P:Par}{σ:Ar}{sp:List Sp}{z:Int}{q:List Int}(h:Inv P σ sp z q)(i:Int):Inv P (aloneP P σ sp i).2 sp z q:=by
 unfold aloneP;split
 ·exact h.read _ _
 ·exact h
theorem do_inv {P:Par}{σ:Ar}{sp:List Sp}{z:Int}{q:List Int}(h:Inv P σ sp z q)(kd i:Int):∃z' q',Inv P (doP P σ sp kd i).2.1 (doP P σ sp kd i).2.2 z' q':=by
 by_cases k0:kd=0
 ·subst k0
  rw[do_0];rcases h.pcs i with p|p|p|p|p|p
  ·rw[step_no (.inl p)];exact⟨_,_,h⟩
  ·rw[step_1 p];exact⟨_,_,inv_1 h p⟩
  ·rw[step_2 p];exact⟨_,_,inv_2 h p⟩
  ·rw[step_3 p]
   by_cases hg:σ.get (box P (spOf sp i).b)=0
   ·simp only[if_pos hg];exact⟨_,_,inv_3 h p hg⟩
   ·simp only[if_neg hg];exact⟨_,_,h.read _ _⟩
  ·rw[step_no (.inr p)];exact⟨_,_,h⟩
  ·rw[step_11 p];exact⟨_,_,inv_11 h p⟩
 by_cases k1:kd=1
 ·subst k1;exact⟨_,_,inv_ask h i⟩
 by_cases k2:kd=2
 ·subst k2;exact⟨_,_,inv_leave h i⟩
 by_cases k3:kd=3
 ·subst k3;exact⟨_,_,inv_alone h i⟩
 ·have e:doP P σ sp kd i=(false,σ,sp):=by unfold doP;rw[if_neg k0,if_neg k1,if_neg k2,if_neg k3]
  rw[e];exact⟨_,_,h⟩
theorem do_len (P:Par)(σ:Ar)(sp:List Sp)(kd i:Int):(doP P σ sp kd i).2.2.length=sp.length:=by
 unfold doP;split
 ·unfold stepP
  split
  ·simp
  split
  ·simp
  split
  ·simp only;split<;>simp
  split
  ·simp
  ·rfl
 split
 ·exact turnS_len _ _ _ _
 split
 ·exact turnS_len _ _ _ _
 split<;>rfl
theorem do_ops (P:Par)(σ:Ar)(sp:List Sp)(kd i:Int):(doP P σ sp kd i).2.1.ops≤σ.ops+1∧σ.ops≤(doP P σ sp kd i).2.1.ops:=by
 have h:∀(kd p v:Int) (wr:Bool),(σ.op kd p wr v).ops≤σ.ops+1∧σ.ops≤(σ.op kd p wr v).ops:=by
  intro kd p v wr;rw[op_ops];split<;>omega
 unfold doP;split
 ·unfold stepP
  split
  ·exact h _ _ _ _
  split
  ·exact h _ _ _ _
  split
  ·exact h _ _ _ _
  split
  ·exact h _ _ _ _
  ·exact⟨Nat.le_succ _,Nat.le_refl _⟩
 split
 ·exact⟨Nat.le_succ _,Nat.le_refl _⟩
 split
 ·exact⟨Nat.le_succ _,Nat.le_refl _⟩
 split
 ·unfold aloneP
  split
  ·exact h _ _ _ _
  ·exact⟨Nat.le_succ _,Nat.le_refl _⟩
 ·exact⟨Nat.le_succ _,Nat.le_refl _⟩
def first0 (n:Nat):List Sp:=(List.range n).map (fun k:Nat=>⟨0,(k:Int)+1,0,0⟩)
theorem first0_spot (n:Nat)(i:Int):spOf (first0 n) i=if 0≤i∧i<n then⟨0,i+1,0,0⟩else sp0:=by
 by_cases hi:0≤i∧i<n
 ·rw[if_pos hi]
  obtain⟨k,rfl⟩:=Int.eq_ofNat_of_zero_le hi.1;rw[spOf_in (by simp[first0];omega)];simp[first0]
 ·rw[if_neg hi,spOf_out (by simp[first0];omega)]
theorem inv_start (n:Nat)(h1:n≤32):Inv ⟨1⟩ ((⟨zerosW 100,n+2,0,0,0,false⟩:Ar).op 2 1 true ((n:Int)+1)) (first0 n) ((n:Int)+1) []:=by
 have hzg:∀q,(⟨zerosW 100,n+2,0,0,0,false⟩:Ar).get q=0:=by
  intro q;unfold Ar.get;split
  ·show(List.replicate 100 (0:Int)).getD _ 0=0
   rw[List.getD_eq_getElem?_getD,List.getElem?_replicate];split<;>rfl
  ·rfl
 have hh:(⟨zerosW 100,n+2,0,0,0,false⟩:Ar).has 1=true:=by simp[Ar.has];omega
 have hg:=fun q=>get_op (⟨zerosW 100,n+2,0,0,0,false⟩:Ar) (by simp[zerosW];omega) 2 1 ((n:Int)+1) true q;simp only[hh,true_and,hzg]at hg;have hl:(first0 n).length=n:=by simp[first0]
 have hp:∀i,(spOf (first0 n) i).pc=0:=by
  intro i;rw[first0_spot];split<;>rfl
 have ha:∀i:Int,0≤i→i<n→(spOf (first0 n) i).a=i+1:=by
  intro i i0 i1;rw[first0_spot,if_pos ⟨i0,i1⟩]
 refine {hl:= ?_,t1:=by decide,t2:= ?_,zr:= ?_,ar:= ?_,br:= ?_,pcs:=fun i=> .inl (hp i),mem:= ?_,nd:=List.nodup_nil,first:= ?_,inj:= ?_,nz:= ?_,ch:=trivial,gz:= ?_,g1:= ?_,gT:= ?_}
 ·rw[op_t,op_len];simp[zerosW];omega
 ·rw[op_t,hl];show 1+(n:Int)+1≤((n+2:Nat):Int);omega
 ·rw[hl];omega
 ·intro i i0 i1;rw[hl]at i1⊢;rw[ha i i0 i1];omega
 ·intro i;rw[hl,first0_spot];split
  ·simp only;omega
  ·simp only[sp0];omega
 ·intro i
  refine⟨fun h=>by simp at h,fun h=> ?_⟩;have:=hp i;unfold inq inn at h;omega
 ·intro i h
  have:=hp i;unfold inn at h;omega
 ·intro i j i0 i1 j0 j1 e
  rw[hl]at i1 j1;rw[ha i i0 i1,ha j j0 j1]at e;omega
 ·intro i i0 i1
  rw[hl]at i1;rw[ha i i0 i1];omega
 ·rw[hg,if_neg (by simp[box];omega)]
 ·intro i h
  have:=hp i;unfold inq inn at h;omega
 ·rw[hg,if_pos rfl];rfl
end Go.Proofs.YtfmiioddhpkdkaaGreat.Cl
namespace Go.Proofs.YtfmiioddhpkdkaaGreat.Cl
open Go.RowKit Go.Proofs.YtfmiioddhpkdkaaGreat.Ara Go.Proofs.YtfmiioddhpkdkaaGreat.Lok
def LkAt (W:World)(gl ga ha hs:Nat)(P:Par)(σ:Ar)(sp:List Sp):Prop:=
 ArAt W ga ha σ∧SpAt W hs sp∧sp.length≤32∧(∃c:Nat,W.heap[gl]? =some (.cells #[.pointer (some ⟨ga,0,none⟩),.int .i64 P.tail,.slice (some ⟨hs,0,none⟩) sp.length c] 274 (0,0)))∧gl≠ga∧gl≠ha∧gl≠hs∧hs≠ga∧hs≠ha
theorem LkAt.mod {S:List Nat}{W W':World}{gl ga ha hs:Nat}{P:Par}{σ:Ar}{sp:List Sp}(k:LkAt W gl ga ha hs P σ sp)(hm:Mod S W W')(h1:gl∉S)(h2:ga∉S)(h3:ha∉S)(h4:hs∉S):LkAt W' gl ga ha hs P σ sp:=by
 obtain⟨k1,k2,k3,⟨c,k4⟩,k5⟩:=k;exact⟨k1.mod hm h2 h3,k2.mod hm h4,k3,⟨c,hm.blk k4 h1⟩,k5⟩
theorem LkAt.same {W W':World}{gl ga ha hs:Nat}{P:Par}{σ:Ar}{sp:List Sp}(k:LkAt W gl ga ha hs P σ sp)(hb:Below W.heap.size W W'):LkAt W' gl ga ha hs P σ sp:=
 k.mod (S:=[]) (Mod.of_below hb) (by simp) (by simp) (by simp) (by simp)
theorem LkAt.drewN {W:World}{gl ga ha hs:Nat}{P:Par}{σ:Ar}{sp:List Sp}(k:LkAt W gl ga ha hs P σ sp)(n:Nat):LkAt (W.drewN n) gl ga ha hs P σ sp:=k
theorem LkAt.arena {W W':World}{gl ga ha hs:Nat}{P:Par}{σ σ':Ar}{sp:List Sp}(k:LkAt W gl ga ha hs P σ sp)(ha':ArAt W' ga ha σ')(hm:Mod [ga,ha] W W'):LkAt W' gl ga ha hs P σ' sp:=by
 obtain⟨_,k2,k3,⟨c,k4⟩,d1,d2,d3,d4,d5⟩:=k;exact⟨ha',k2.mod hm (by simp;omega),k3,⟨c,hm.blk k4 (by simp;omega)⟩,d1,d2,d3,d4,d5⟩
theorem LkAt.spots {W W':World}{gl ga ha hs:Nat}{P:Par}{σ:Ar}{sp sp':List Sp}(k:LkAt W gl ga ha hs P σ sp)(hs':SpAt W' hs sp')(hm:Mod [hs] W W')(hl:sp'.length=sp.length):LkAt W' gl ga ha hs P σ sp':=by
 obtain⟨k1,_,k3,⟨c,k4⟩,d1,d2,d3,d4,d5⟩:=k;refine⟨k1.mod hm (by simp;omega) (by simp;omega),hs',by omega,⟨c,?_⟩,d1,d2,d3,d4,d5⟩;have:=hm.blk k4 (by simp;omega);rw[hl];exact this
theorem LkAt.heads {W:World}{gl ga ha hs:Nat}{P:Par}{σ:Ar}{sp:List Sp}(k:LkAt W gl ga ha hs P σ sp):(∃c:Nat,W.cell? ⟨gl,0,none⟩=some (.pointer (some ⟨ga,0,none⟩))∧W.cell? ⟨gl,1,none⟩=some (.int .i64 P.tail)∧W.cell? ⟨gl,2,none⟩=some (.slice (some ⟨hs,0,none⟩) sp.length c))∧sp.length≤32:=by
 obtain⟨_,_,k3,⟨c,k4⟩,_⟩:=k;exact⟨⟨c,blk_cell k4 0 (by simp),blk_cell k4 1 (by simp),blk_cell k4 2 (by simp)⟩,k3⟩
section
variable(gl ga ha hs:Nat)(P:Par)(σ:Ar)(sp:List Sp)(w:World)(H:LkAt w gl ga ha hs P σ sp)
include H
theorem slots_lk:Calls Tryz.prog 382 #[.pointer (some ⟨gl,0,none⟩)] w fun e w'=>e= .returned (.int .i64 sp.length)∧w'=w:=by
 obtain⟨⟨cc,q0,q1,q2⟩,hl⟩:=H.heads;clear H;go_enter Tryz.func382,Tryz.ntmps382;go_wp2_with fail;go_ret;exact⟨rfl,rfl⟩
theorem spot_out_lk (i:Int)(hi:i<0∨(sp.length:Int)≤i):Calls Tryz.prog 386 #[.pointer (some ⟨gl,0,none⟩),.int .i64 i] w fun e w'=>e= .returned (.pointer none)∧w'=w:=by
 have HS:=Lib.hid (slots_lk gl ga ha hs P σ sp w H);obtain⟨⟨cc,q0,q1,q2⟩,hl⟩:=H.heads;clear H;by_cases h0:i<0
 ·go_enter Tryz.func386,Tryz.ntmps386
  go_wp2_with fail;go_ret;exact⟨rfl,rfl⟩
 ·have h1:(sp.length:Int)≤i:=by omega
  go_enter Tryz.func386,Tryz.ntmps386;go_wp2_with fail;refine(HS.out).mono ?_;rintro e wx ⟨rfl,hwx⟩;obtain rfl:=hwx.symm;go_wp2_with fail;go_ret;exact⟨rfl,rfl⟩
theorem spot_in_lk (k:Nat)(hk:k<sp.length):Calls Tryz.prog 386 #[.pointer (some ⟨gl,0,none⟩),.int .i64 (k:Int)] w fun e w'=>e= .returned (.pointer (some ⟨hs,k*4,none⟩))∧w'=w:=by
 have HS:=Lib.hid (slots_lk gl ga ha hs P σ sp w H);obtain⟨⟨cc,q0,q1,q2⟩,hl⟩:=H.heads;have h1:(k:Int)<(sp.length:Int):=by omega
 have h2:(0:Int)≤(k:Int):=by omega
 clear H;go_enter Tryz.func386,Tryz.ntmps386;go_wp2_with fail;refine(HS.out).mono ?_;rintro e wx ⟨rfl,hwx⟩;obtain rfl:=hwx.symm;go_wp2_with fail;go_ret;exact⟨rfl,rfl⟩
theorem Spot_lk (i:Int):Calls Tryz.prog 383 #[.pointer (some ⟨gl,0,none⟩),.int .i64 i] w fun e w'=>e= .returned (.agg #[.int .i64 (spOf sp i).pc,.int .i64 (spOf sp i).a,.int .i64 (spOf sp i).b,.int .i64 (spOf sp i).c])∧Below w.heap.size w w':=by
 by_cases hi:i<0∨(sp.length:Int)≤i
 ·rw[spOf_out hi]
  have HS:=Lib.hid (fun W K=>spot_out_lk gl ga ha hs P σ sp W K i hi);have HH:=Lib.hid (H.same (below_new w (.cells #[.int .i64 0,.int .i64 0,.int .i64 0,.int .i64 0] 134)));clear H hi;go_enter Tryz.func383,Tryz.ntmps383;go_wp2_with fail;refine(HS.out _ HH.out).mono ?_;rintro e wx ⟨rfl,hwx⟩;obtain rfl:=hwx.symm;go_wp2_with fail;exact bodyPost_ret (v:= .agg #[.int .i64 0,.int .i64 0,.int .i64 0,.int .i64 0]) (by simp[results,Tryz.results383,go_sem]) rfl ⟨rfl,(Below.refl _ _).alloc (Nat.le_refl _) _⟩
 ·obtain⟨k,rfl⟩:=Int.eq_ofNat_of_zero_le (show 0≤i by omega)
  have hk:k<sp.length:=by omega
  have HS:=Lib.hid (fun W K=>spot_in_lk gl ga ha hs P σ sp W K k hk);have HH:=Lib.hid (H.same (below_new w (.cells #[.int .i64 0,.int .i64 0,.int .i64 0,.int .i64 0] 134)));obtain⟨c0,c1,c2,c3,_⟩:=H.2.1.cells k hk;have hlt:=H.2.1.lt;have e0:=spOf_in hk;rw[e0];clear H hi e0;generalize sp[k]=s at*;obtain⟨xp,xa,xb,xc⟩:=s;simp only at c0 c1 c2 c3⊢;go_enter Tryz.func383,Tryz.ntmps383;go_wp2_with fail;refine(HS.out _ HH.out).mono ?_;rintro e wx ⟨rfl,hwx⟩;obtain rfl:=hwx.symm;go_wp2_with fail;exact bodyPost_ret (v:= .agg #[.int .i64 xp,.int .i64 xa,.int .i64 xb,.int .i64 xc]) (by simp[results,Tryz.results383,go_sem]) rfl ⟨rfl,(Below.refl _ _).alloc (Nat.le_refl _) _⟩
theorem turn_lk (i fr tO:Int):Calls Tryz.prog 385 #[.pointer (some ⟨gl,0,none⟩),.int .i64 i,.int .i64 fr,.int .i64 tO] w fun e w'=>e= .returned (.bool (turnB sp i fr))∧LkAt w' gl ga ha hs P σ (turnS sp i fr tO)∧Mod [hs] w w':=by
 by_cases hi:i<0∨(sp.length:Int)≤i
 ·rw[turn_out hi,turnS_out hi]
  have HS:=Lib.hid (spot_out_lk gl ga ha hs P σ sp w H i hi);have HH:=Lib.hid H;clear H hi;go_enter Tryz.func385,Tryz.ntmps385;go_wp2_with fail;refine(HS.out).mono ?_;rintro e wx ⟨rfl,hwx⟩;obtain rfl:=hwx.symm;go_wp2_with fail;go_ret;exact⟨rfl,HH.out,Mod.refl _ _⟩
 ·obtain⟨k,rfl⟩:=Int.eq_ofNat_of_zero_le (show 0≤i by omega)
  have hk:k<sp.length:=by omega
  have HS:=Lib.hid (spot_in_lk gl ga ha hs P σ sp w H k hk);have c0:=(H.2.1.cells k hk).1;have f0:=(H.2.1.cells k hk).2.2.2.2 (k*4);have HH:=Lib.hid H;have hm:Mod [hs] w (w.setCell ⟨hs,k*4,none⟩ (.int .i64 tO)):=(Mod.refl _ _).setCell (by simp) _;have HT:=Lib.hid (H.spots (H.2.1.setPc k hk tO) hm (by rw[List.length_set]));rw[turn_in hk,turnS_in hk];by_cases hp:sp[k].pc=fr
  ·rw[if_pos hp,beq_iff_eq.2 hp]
   rw[hp]at c0;have e1:=ibne_no (rfl:fr=fr);generalize sp.set k {sp[k]with pc:=tO}=sp2 at*;clear H hi hp hk;go_enter Tryz.func385,Tryz.ntmps385;go_wp2_with fail;refine(HS.out).mono ?_;rintro e wx ⟨rfl,hwx⟩;obtain rfl:=hwx.symm;go_wp2_with fail;go_ret;exact⟨rfl,HT.out,hm⟩
  ·rw[if_neg hp,beq_eq_false_iff_ne.2 hp]
   have e1:=ibne hp;generalize sp[k].pc=x at*;clear H hi hp HT hm hk f0;go_enter Tryz.func385,Tryz.ntmps385;go_wp2_with fail;refine(HS.out).mono ?_;rintro e wx ⟨rfl,hwx⟩;obtain rfl:=hwx.symm;go_wp2_with fail;go_ret;exact⟨rfl,HH.out,Mod.refl _ _⟩
theorem Ask_lk (i:Int):Calls Tryz.prog 380 #[.pointer (some ⟨gl,0,none⟩),.int .i64 i] w fun e w'=>e= .returned (.bool (turnB sp i 0))∧LkAt w' gl ga ha hs P σ (turnS sp i 0 1)∧Mod [hs] w w':=by
 have HT:=Lib.hid (turn_lk gl ga ha hs P σ sp w H i 0 1);clear H;generalize turnB sp i 0=b at*;generalize turnS sp i 0 1=sp2 at*;go_enter Tryz.func380,Tryz.ntmps380;go_wp2_with fail;refine HT.out.mono ?_;rintro e w2 ⟨rfl,h2,hm⟩;go_wp2_with fail;go_ret;exact⟨rfl,h2,hm⟩
theorem Leave_lk (i:Int):Calls Tryz.prog 381 #[.pointer (some ⟨gl,0,none⟩),.int .i64 i] w fun e w'=>e= .returned (.bool (turnB sp i 10))∧LkAt w' gl ga ha hs P σ (turnS sp i 10 11)∧Mod [hs] w w':=by
 have HT:=Lib.hid (turn_lk gl ga ha hs P σ sp w H i 10 11);clear H;generalize turnB sp i 10=b at*;generalize turnS sp i 10 11=sp2 at*;go_enter Tryz.func381,Tryz.ntmps381;go_wp2_with fail;refine HT.out.mono ?_;rintro e w2 ⟨rfl,h2,hm⟩;go_wp2_with fail;go_ret;exact⟨rfl,h2,hm⟩
end
end Go.Proofs.YtfmiioddhpkdkaaGreat.Cl
