/- Merged texts: McQ, Mc1. -/
import Derived.Test.YtfmiioddhpkdkaaGreatWz6
set_option linter.unusedVariables false
set_option linter.unusedSimpArgs false
set_option maxRecDepth 100000
set_option maxHeartbeats 8000000
namespace Go.Proofs.YtfmiioddhpkdkaaGreat.Mc
open Go.RowKit Ara Lok
section
variable {P:Par}{σ:Ar}{sp:List Sp}{i:Int}
theorem step_1 (h:(spOf sp i).pc=1):stepP P σ sp i=(false,σ.op 2 (nx P (i+1)) true 0,sp.set i.toNat {spOf sp i with pc:=2}):=by
 unfold stepP;rw[if_pos h]
theorem step_2 (h:(spOf sp i).pc=2):stepP P σ sp i=(false,σ.op 2 (wt P (i+1)) true 1,sp.set i.toNat {spOf sp i with pc:=3}):=by
 unfold stepP;rw[if_neg (by omega),if_pos h]
theorem step_3 (h:(spOf sp i).pc=3):stepP P σ sp i=(σ.get P.tail==0,σ.op 3 P.tail true (i+1),sp.set i.toNat {spOf sp i with pc:=if σ.get P.tail=0 then 10 else 4,a:=σ.get P.tail}):=by
 unfold stepP;rw[if_neg (by omega),if_neg (by omega),if_pos h]
theorem step_4 (h:(spOf sp i).pc=4):stepP P σ sp i=(false,σ.op 2 (nx P (spOf sp i).a) true (i+1),sp.set i.toNat {spOf sp i with pc:=5}):=by
 unfold stepP;rw[if_neg (by omega),if_neg (by omega),if_neg (by omega),if_pos h]
theorem step_5 (h:(spOf sp i).pc=5):stepP P σ sp i=(σ.get (wt P (i+1))==0,σ.op 1 (wt P (i+1)) false 0,sp.set i.toNat {spOf sp i with pc:=if σ.get (wt P (i+1))=0 then 10 else 5}):=by
 unfold stepP;rw[if_neg (by omega),if_neg (by omega),if_neg (by omega),if_neg (by omega),if_pos h]
theorem step_look (h:(spOf sp i).pc=11∨(spOf sp i).pc=13):stepP P σ sp i=(false,σ.op 1 (nx P (i+1)) false 0,sp.set i.toNat {spOf sp i with pc:=if σ.get (nx P (i+1))=0 then(if(spOf sp i).pc=11 then 12 else 13)else 14,a:=σ.get (nx P (i+1))}):=by
 unfold stepP;rw[if_neg (by omega),if_neg (by omega),if_neg (by omega),if_neg (by omega),if_neg (by omega)];rcases h with h|h
 ·rw[if_pos h,if_pos h]
 ·rw[if_neg (by omega),if_neg (by omega),if_pos h,if_neg (show¬(spOf sp i).pc=11 by omega)]
theorem step_12 (h:(spOf sp i).pc=12):stepP P σ sp i=(σ.has P.tail&&(σ.get P.tail==i+1),σ.op 4 P.tail (σ.has P.tail&&(σ.get P.tail==i+1)) 0,sp.set i.toNat {spOf sp i with pc:=if(σ.has P.tail&&(σ.get P.tail==i+1))=true then 0 else 13}):=by
 unfold stepP;rw[if_neg (by omega),if_neg (by omega),if_neg (by omega),if_neg (by omega),if_neg (by omega),if_neg (by omega),if_pos h]
theorem step_14 (h:(spOf sp i).pc=14):stepP P σ sp i=(true,σ.op 2 (wt P (spOf sp i).a) true 0,sp.set i.toNat {spOf sp i with pc:=0}):=by
 unfold stepP;rw[if_neg (by omega),if_neg (by omega),if_neg (by omega),if_neg (by omega),if_neg (by omega),if_neg (by omega),if_neg (by omega),if_neg (by omega),if_pos h]
theorem step_no (h:(spOf sp i).pc=0∨(spOf sp i).pc=10):stepP P σ sp i=(false,σ,sp):=by
 unfold stepP;rw[if_neg (by omega),if_neg (by omega),if_neg (by omega),if_neg (by omega),if_neg (by omega),if_neg (by omega),if_neg (by omega),if_neg (by omega),if_neg (by omega)]
end
theorem step_inv {P:Par}{σ:Ar}{sp:List Sp}{q:List Int}(h:Inv P σ sp q)(i:Int):∃q',Inv P (stepP P σ sp i).2.1 (stepP P σ sp i).2.2 q':=by
 rcases h.pcs i with p|p|p|p|p|p|p|p|p|p|p
 ·rw[step_no (.inl p)];exact⟨_,h⟩
 ·rw[step_1 p];exact⟨_,inv_1 h p⟩
 ·rw[step_2 p];exact⟨_,inv_2 h p⟩
 ·rw[step_3 p];exact⟨_,inv_3 h p⟩
 ·rw[step_4 p];exact⟨_,(inv_4 h p).1⟩
 ·rw[step_5 p]
  by_cases hg:σ.get (wt P (i+1))=0
  ·simp only[if_pos hg];exact⟨_,(inv_5 h p hg).1⟩
  ·obtain⟨i0,i1⟩:=spOf_range (sp:=sp) (i:=i) (by omega)
   simp only[if_neg hg];rw[set_same i0 i1 (by rw[←p])];exact⟨_,h.read _ _⟩
 ·rw[step_no (.inr p)];exact⟨_,h⟩
 ·rw[step_look (.inl p)];exact⟨_,inv_look h (.inl p)⟩
 ·rw[step_12 p,h.casB]
  by_cases hc:tailOf q=i+1
  ·rw[decide_eq_true hc];simp only[if_true];exact⟨_,(inv_12 h p hc).1⟩
  ·rw[decide_eq_false hc];simp only[Bool.false_eq_true,if_false];exact⟨_,inv_12b h p hc⟩
 ·rw[step_look (.inr p)];exact⟨_,inv_look h (.inr p)⟩
 ·rw[step_14 p]
  obtain⟨j,t,_,_,hI⟩:=inv_14 h p;exact⟨_,hI⟩
theorem do_inv {P:Par}{σ:Ar}{sp:List Sp}{q:List Int}(h:Inv P σ sp q)(kd i:Int):∃q',Inv P (doP P σ sp kd i).2.1 (doP P σ sp kd i).2.2 q':=by
 unfold doP;split
 ·exact step_inv h i
 split
 ·exact⟨_,inv_ask h⟩
 split
 ·exact⟨_,inv_leave h⟩
 split
 ·exact⟨_,inv_alone h⟩
 ·exact⟨_,h⟩
theorem do_len (P:Par)(σ:Ar)(sp:List Sp)(kd i:Int):(doP P σ sp kd i).2.2.length=sp.length:=by
 unfold doP;split
 ·unfold stepP
  repeat(split;simp)
  rfl
 split
 ·exact turnS_len _ _ _ _
 split
 ·exact turnS_len _ _ _ _
 split<;>rfl
theorem do_ops (P:Par)(σ:Ar)(sp:List Sp)(kd i:Int):(doP P σ sp kd i).2.1.ops≤σ.ops+1∧σ.ops≤(doP P σ sp kd i).2.1.ops:=by
 have h:∀(kd p v:Int) (wr:Bool),(σ.op kd p wr v).ops≤σ.ops+1∧σ.ops≤(σ.op kd p wr v).ops:=by
  intro kd p v wr;rw[op_ops];split<;>omega
 unfold doP;split
 ·unfold stepP
  repeat(split;exact h _ _ _ _)
  exact⟨Nat.le_succ _,Nat.le_refl _⟩
 split
 ·exact⟨Nat.le_succ _,Nat.le_refl _⟩
 split
 ·exact⟨Nat.le_succ _,Nat.le_refl _⟩
 split
 ·unfold aloneP
  split
  ·exact h _ _ _ _
  ·exact⟨Nat.le_succ _,Nat.le_refl _⟩
 ·exact⟨Nat.le_succ _,Nat.le_refl _⟩
theorem zero_spot (n:Nat)(i:Int):spOf (List.replicate n sp0) i=sp0:=by
 unfold spOf;split
 ·rw[List.getD_eq_getElem?_getD,List.getElem?_replicate]
  split<;>rfl
 ·rfl
end Go.Proofs.YtfmiioddhpkdkaaGreat.Mc
namespace Go.Proofs.YtfmiioddhpkdkaaGreat.Mc
open Go.RowKit Ara Lok
def LkAt (W:World)(gl ga ha hs:Nat)(P:Par)(σ:Ar)(sp:List Sp):Prop:=
 ArAt W ga ha σ∧SpAt W hs sp∧sp.length≤32∧(∃c:Nat,W.heap[gl]? =some (.cells #[.pointer (some ⟨ga,0,none⟩),.int .i64 P.tail,.slice (some ⟨hs,0,none⟩) sp.length c] 272 (0,0)))∧gl≠ga∧gl≠ha∧gl≠hs∧hs≠ga∧hs≠ha
theorem LkAt.mod {S:List Nat}{W W':World}{gl ga ha hs:Nat}{P:Par}{σ:Ar}{sp:List Sp}(k:LkAt W gl ga ha hs P σ sp)(hm:Mod S W W')(h1:gl∉S)(h2:ga∉S)(h3:ha∉S)(h4:hs∉S):LkAt W' gl ga ha hs P σ sp:=by
 obtain⟨k1,k2,k3,⟨c,k4⟩,k5⟩:=k;exact⟨k1.mod hm h2 h3,k2.mod hm h4,k3,⟨c,hm.blk k4 h1⟩,k5⟩
theorem LkAt.same {W W':World}{gl ga ha hs:Nat}{P:Par}{σ:Ar}{sp:List Sp}(k:LkAt W gl ga ha hs P σ sp)(hb:Below W.heap.size W W'):LkAt W' gl ga ha hs P σ sp:=
 k.mod (S:=[]) (Mod.of_below hb) (by simp) (by simp) (by simp) (by simp)
theorem LkAt.drewN {W:World}{gl ga ha hs:Nat}{P:Par}{σ:Ar}{sp:List Sp}(k:LkAt W gl ga ha hs P σ sp)(n:Nat):LkAt (W.drewN n) gl ga ha hs P σ sp:=k
theorem LkAt.arena {W W':World}{gl ga ha hs:Nat}{P:Par}{σ σ':Ar}{sp:List Sp}(k:LkAt W gl ga ha hs P σ sp)(ha':ArAt W' ga ha σ')(hm:Mod [ga,ha] W W'):LkAt W' gl ga ha hs P σ' sp:=by
 obtain⟨_,k2,k3,⟨c,k4⟩,d1,d2,d3,d4,d5⟩:=k;exact⟨ha',k2.mod hm (by simp;omega),k3,⟨c,hm.blk k4 (by simp;omega)⟩,d1,d2,d3,d4,d5⟩
theorem LkAt.spots {W W':World}{gl ga ha hs:Nat}{P:Par}{σ:Ar}{sp sp':List Sp}(k:LkAt W gl ga ha hs P σ sp)(hs':SpAt W' hs sp')(hm:Mod [hs] W W')(hl:sp'.length=sp.length):LkAt W' gl ga ha hs P σ sp':=by
 obtain⟨k1,_,k3,⟨c,k4⟩,d1,d2,d3,d4,d5⟩:=k;refine⟨k1.mod hm (by simp;omega) (by simp;omega),hs',by omega,⟨c,?_⟩,d1,d2,d3,d4,d5⟩;have:=hm.blk k4 (by simp;omega);rw[hl];exact this
theorem LkAt.heads {W:World}{gl ga ha hs:Nat}{P:Par}{σ:Ar}{sp:List Sp}(k:LkAt W gl ga ha hs P σ sp):(∃c:Nat,W.cell? ⟨gl,0,none⟩=some (.pointer (some ⟨ga,0,none⟩))∧W.cell? ⟨gl,1,none⟩=some (.int .i64 P.tail)∧W.cell? ⟨gl,2,none⟩=some (.slice (some ⟨hs,0,none⟩) sp.length c))∧sp.length≤32:=by
 obtain⟨_,_,k3,⟨c,k4⟩,_⟩:=k;exact⟨⟨c,blk_cell k4 0 (by simp),blk_cell k4 1 (by simp),blk_cell k4 2 (by simp)⟩,k3⟩
section
variable(gl ga ha hs:Nat)(P:Par)(σ:Ar)(sp:List Sp)(w:World)(H:LkAt w gl ga ha hs P σ sp)
include H
theorem slots_lk:Calls Tryz.prog 369 #[.pointer (some ⟨gl,0,none⟩)] w fun e w'=>e= .returned (.int .i64 sp.length)∧w'=w:=by
 obtain⟨⟨cc,q0,q1,q2⟩,hl⟩:=H.heads;clear H;go_enter Tryz.func369,Tryz.ntmps369;go_wp2_with fail;go_ret;exact⟨rfl,rfl⟩
theorem spot_out_lk (i:Int)(hi:i<0∨(sp.length:Int)≤i):Calls Tryz.prog 374 #[.pointer (some ⟨gl,0,none⟩),.int .i64 i] w fun e w'=>e= .returned (.pointer none)∧w'=w:=by
 have HS:=Lib.hid (slots_lk gl ga ha hs P σ sp w H);obtain⟨⟨cc,q0,q1,q2⟩,hl⟩:=H.heads;clear H;by_cases h0:i<0
 ·go_enter Tryz.func374,Tryz.ntmps374
  go_wp2_with fail;go_ret;exact⟨rfl,rfl⟩
 ·have h1:(sp.length:Int)≤i:=by omega
  go_enter Tryz.func374,Tryz.ntmps374;go_wp2_with fail;refine(HS.out).mono ?_;rintro e wx ⟨rfl,hwx⟩;obtain rfl:=hwx.symm;go_wp2_with fail;go_ret;exact⟨rfl,rfl⟩
theorem spot_in_lk (k:Nat)(hk:k<sp.length):Calls Tryz.prog 374 #[.pointer (some ⟨gl,0,none⟩),.int .i64 (k:Int)] w fun e w'=>e= .returned (.pointer (some ⟨hs,k*4,none⟩))∧w'=w:=by
 have HS:=Lib.hid (slots_lk gl ga ha hs P σ sp w H);obtain⟨⟨cc,q0,q1,q2⟩,hl⟩:=H.heads;have h1:(k:Int)<(sp.length:Int):=by omega
 have h2:(0:Int)≤(k:Int):=by omega
 clear H;go_enter Tryz.func374,Tryz.ntmps374;go_wp2_with fail;refine(HS.out).mono ?_;rintro e wx ⟨rfl,hwx⟩;obtain rfl:=hwx.symm;go_wp2_with fail;go_ret;exact⟨rfl,rfl⟩
theorem Spot_lk (i:Int):Calls Tryz.prog 370 #[.pointer (some ⟨gl,0,none⟩),.int .i64 i] w fun e w'=>e= .returned (.agg #[.int .i64 (spOf sp i).pc,.int .i64 (spOf sp i).a,.int .i64 (spOf sp i).b,.int .i64 (spOf sp i).c])∧Below w.heap.size w w':=by
 by_cases hi:i<0∨(sp.length:Int)≤i
 ·rw[spOf_out hi]
  have HS:=Lib.hid (fun W K=>spot_out_lk gl ga ha hs P σ sp W K i hi);have HH:=Lib.hid (H.same (below_new w (.cells #[.int .i64 0,.int .i64 0,.int .i64 0,.int .i64 0] 134)));clear H hi;go_enter Tryz.func370,Tryz.ntmps370;go_wp2_with fail;refine(HS.out _ HH.out).mono ?_;rintro e wx ⟨rfl,hwx⟩;obtain rfl:=hwx.symm;go_wp2_with fail;exact bodyPost_ret (v:= .agg #[.int .i64 0,.int .i64 0,.int .i64 0,.int .i64 0]) (by simp[results,Tryz.results370,go_sem]) rfl ⟨rfl,(Below.refl _ _).alloc (Nat.le_refl _) _⟩
 ·obtain⟨k,rfl⟩:=Int.eq_ofNat_of_zero_le (show 0≤i by omega)
  have hk:k<sp.length:=by omega
  have HS:=Lib.hid (fun W K=>spot_in_lk gl ga ha hs P σ sp W K k hk);have HH:=Lib.hid (H.same (below_new w (.cells #[.int .i64 0,.int .i64 0,.int .i64 0,.int .i64 0] 134)));obtain⟨c0,c1,c2,c3,_⟩:=H.2.1.cells k hk;have hlt:=H.2.1.lt;have e0:=spOf_in hk;rw[e0];clear H hi e0;generalize sp[k]=s at*;obtain⟨xp,xa,xb,xc⟩:=s;simp only at c0 c1 c2 c3⊢;go_enter Tryz.func370,Tryz.ntmps370;go_wp2_with fail;refine(HS.out _ HH.out).mono ?_;rintro e wx ⟨rfl,hwx⟩;obtain rfl:=hwx.symm;go_wp2_with fail;exact bodyPost_ret (v:= .agg #[.int .i64 xp,.int .i64 xa,.int .i64 xb,.int .i64 xc]) (by simp[results,Tryz.results370,go_sem]) rfl ⟨rfl,(Below.refl _ _).alloc (Nat.le_refl _) _⟩
theorem turn_lk (i fr tO:Int):Calls Tryz.prog 373 #[.pointer (some ⟨gl,0,none⟩),.int .i64 i,.int .i64 fr,.int .i64 tO] w fun e w'=>e= .returned (.bool (turnB sp i fr))∧LkAt w' gl ga ha hs P σ (turnS sp i fr tO)∧Mod [hs] w w':=by
 by_cases hi:i<0∨(sp.length:Int)≤i
 ·rw[turn_out hi,turnS_out hi]
  have HS:=Lib.hid (spot_out_lk gl ga ha hs P σ sp w H i hi);have HH:=Lib.hid H;clear H hi;go_enter Tryz.func373,Tryz.ntmps373;go_wp2_with fail;refine(HS.out).mono ?_;rintro e wx ⟨rfl,hwx⟩;obtain rfl:=hwx.symm;go_wp2_with fail;go_ret;exact⟨rfl,HH.out,Mod.refl _ _⟩
 ·obtain⟨k,rfl⟩:=Int.eq_ofNat_of_zero_le (show 0≤i by omega)
  have hk:k<sp.length:=by omega
  have HS:=Lib.hid (spot_in_lk gl ga ha hs P σ sp w H k hk);have c0:=(H.2.1.cells k hk).1;have f0:=(H.2.1.cells k hk).2.2.2.2 (k*4);have HH:=Lib.hid H;have hm:Mod [hs] w (w.setCell ⟨hs,k*4,none⟩ (.int .i64 tO)):=(Mod.refl _ _).setCell (by simp) _;have HT:=Lib.hid (H.spots (H.2.1.setPc k hk tO) hm (by rw[List.length_set]));rw[turn_in hk,turnS_in hk];by_cases hp:sp[k].pc=fr
  ·rw[if_pos hp,beq_iff_eq.2 hp]
   rw[hp]at c0;have e1:=ibne_no (rfl:fr=fr);generalize sp.set k {sp[k]with pc:=tO}=sp2 at*;clear H hi hp hk;go_enter Tryz.func373,Tryz.ntmps373;go_wp2_with fail;refine(HS.out).mono ?_;rintro e wx ⟨rfl,hwx⟩;obtain rfl:=hwx.symm;go_wp2_with fail;go_ret;exact⟨rfl,HT.out,hm⟩
  ·rw[if_neg hp,beq_eq_false_iff_ne.2 hp]
   have e1:=ibne hp;generalize sp[k].pc=x at*;clear H hi hp HT hm hk f0;go_enter Tryz.func373,Tryz.ntmps373;go_wp2_with fail;refine(HS.out).mono ?_;rintro e wx ⟨rfl,hwx⟩;obtain rfl:=hwx.symm;go_wp2_with fail;go_ret;exact⟨rfl,HH.out,Mod.refl _ _⟩
theorem Ask_lk (i:Int):Calls Tryz.prog 367 #[.pointer (some ⟨gl,0,none⟩),.int .i64 i] w fun e w'=>e= .returned (.bool (turnB sp i 0))∧LkAt w' gl ga ha hs P σ (turnS sp i 0 1)∧Mod [hs] w w':=by
 have HT:=Lib.hid (turn_lk gl ga ha hs P σ sp w H i 0 1);clear H;generalize turnB sp i 0=b at*;generalize turnS sp i 0 1=sp2 at*;go_enter Tryz.func367,Tryz.ntmps367;go_wp2_with fail;refine HT.out.mono ?_;rintro e w2 ⟨rfl,h2,hm⟩;go_wp2_with fail;go_ret;exact⟨rfl,h2,hm⟩
theorem Leave_lk (i:Int):Calls Tryz.prog 368 #[.pointer (some ⟨gl,0,none⟩),.int .i64 i] w fun e w'=>e= .returned (.bool (turnB sp i 10))∧LkAt w' gl ga ha hs P σ (turnS sp i 10 11)∧Mod [hs] w w':=by
 have HT:=Lib.hid (turn_lk gl ga ha hs P σ sp w H i 10 11);clear H;generalize turnB sp i 10=b at*;generalize turnS sp i 10 11=sp2 at*;go_enter Tryz.func368,Tryz.ntmps368;go_wp2_with fail;refine HT.out.mono ?_;rintro e w2 ⟨rfl,h2,hm⟩;go_wp2_with fail;go_ret;exact⟨rfl,h2,hm⟩
end
end Go.Proofs.YtfmiioddhpkdkaaGreat.Mc
