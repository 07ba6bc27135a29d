/- Merged texts: LokP, LokR, LokW, Ta1, Ta2, McP. -/
import Derived.Test.YtfmiioddhpkdkaaGreatWh5
import Derived.Maps.AppendAt
import Derived.Deep.RegionHeld3
set_option linter.unusedVariables false
set_option linter.unusedSimpArgs false
namespace Go.Proofs.YtfmiioddhpkdkaaGreat.Lok
open Go.RowKit Go.Proofs.YtfmiioddhpkdkaaGreat.Ara
theorem op_has (σ:Ar)(kd p v:Int)(wr:Bool)(q:Int):(σ.op kd p wr v).has q=σ.has q:=by
 unfold Ar.op Ar.has;split<;>rfl
theorem op_t (σ:Ar)(kd p v:Int)(wr:Bool):(σ.op kd p wr v).t=σ.t:=by
 unfold Ar.op;split<;>rfl
theorem op_len (σ:Ar)(kd p v:Int)(wr:Bool):(σ.op kd p wr v).ws.length=σ.ws.length:=by
 unfold Ar.op;split
 ·cases wr
  ·rfl
  ·exact List.length_set
 ·rfl
theorem op_ops (σ:Ar)(kd p v:Int)(wr:Bool):(σ.op kd p wr v).ops=σ.ops+if σ.has p then 1 else 0:=by
 unfold Ar.op;split<;>rfl
theorem get_op (σ:Ar)(hl:σ.t≤σ.ws.length)(kd p v:Int)(wr:Bool)(q:Int):(σ.op kd p wr v).get q=if σ.has p=true∧wr=true∧q=p then v else σ.get q:=by
 unfold Ar.get;rw[op_has];unfold Ar.op;by_cases hp:σ.has p=true
 ·rw[if_pos hp]
  cases wr
  ·simp[Ar.did]
  ·by_cases hq:q=p
   ·subst hq
    have h2:=hp;simp[Ar.has]at h2;simp only[hp,if_true,Ar.did,and_self];simp only[List.getD_eq_getElem?_getD];rw[List.getElem?_set_self (by omega)];rfl
   ·simp only[hq,and_false,if_false,Ar.did,if_true]
    by_cases hh:σ.has q=true
    ·simp only[hh,if_true]
     simp[Ar.has]at hh hp;simp only[List.getD_eq_getElem?_getD];rw[List.getElem?_set_ne (by omega)]
    ·simp only[hh]
     simp
 ·rw[if_neg hp]
  simp[hp]
theorem get_read (σ:Ar)(hl:σ.t≤σ.ws.length)(kd p v:Int)(q:Int):(σ.op kd p false v).get q=σ.get q:=by
 rw[get_op σ hl];simp
theorem spOf_set {sp:List Sp}{i:Int}(h0:0≤i)(h1:i<sp.length)(s':Sp)(j:Int):spOf (sp.set i.toNat s') j=if j=i then s' else spOf sp j:=by
 unfold spOf;rw[List.length_set];by_cases hj:0≤j∧j<sp.length
 ·rw[if_pos hj,if_pos hj]
  simp only[List.getD_eq_getElem?_getD];by_cases e:j=i
  ·subst e
   rw[if_pos rfl,List.getElem?_set_self (by omega)];rfl
  ·rw[if_neg e,List.getElem?_set_ne (by omega)]
 ·rw[if_neg hj,if_neg hj,if_neg (by omega)]
theorem spOf_range {sp:List Sp}{i:Int}(h:(spOf sp i).pc≠0):0≤i∧i<sp.length:=by
 by_cases hi:0≤i∧i<sp.length
 ·exact hi
 ·exfalso
  apply h;rw[spOf_out (by omega)];rfl
theorem turn_true {sp:List Sp}{i fr:Int}(h:turnB sp i fr=true):(0≤i∧i<sp.length)∧(spOf sp i).pc=fr:=by
 simp[turnB]at h;omega
theorem spOf_turn {sp:List Sp}{i fr:Int}(tO:Int)(h:turnB sp i fr=true)(j:Int):spOf (turnS sp i fr tO) j=if j=i then {spOf sp i with pc:=tO}else spOf sp j:=by
 unfold turnS;rw[if_pos h];obtain⟨⟨h0,h1⟩,_⟩:=turn_true h;exact spOf_set h0 h1 _ j
theorem turn_no {sp:List Sp}{i fr:Int}(tO:Int)(h:turnB sp i fr=false):turnS sp i fr tO=sp:=by
 unfold turnS;rw[if_neg (by simp[h])]
def cnt (f:Sp→Bool)(sp:List Sp):Nat→Nat
 |0=>0
 |k+1=>cnt f sp k+if f (spOf sp (k:Int))then 1 else 0
theorem cnt_one (f:Sp→Bool)(sp:List Sp)(h:∀i j,f (spOf sp i)=true→f (spOf sp j)=true→i=j)(n:Nat):cnt f sp n≤1:=by
 induction n with
 |zero=>exact Nat.zero_le _
 |succ n ih=>
  unfold cnt;split
  ·rename_i hf
   have h0:∀m,m≤n→cnt f sp m=0:=by
    intro m
    induction m with
    |zero=>intro _;rfl
    |succ m ihm=>
     intro hm;unfold cnt;rw[ihm (by omega)];split
     ·rename_i hg
      have:=h _ _ hf hg;omega
     ·rfl
   rw[h0 n (Nat.le_refl _)];exact Nat.le_refl _
  ·omega
theorem cnt_some (f:Sp→Bool)(sp:List Sp)(i:Int)(hf:f (spOf sp i)=true)(h0:0≤i)(n:Nat)(hn:i<n):0<cnt f sp n:=by
 induction n with
 |zero=>omega
 |succ n ih=>
  unfold cnt;by_cases e:i=n
  ·subst e
   rw[if_pos hf];omega
  ·have:=ih (by omega)
   omega
end Go.Proofs.YtfmiioddhpkdkaaGreat.Lok
namespace Go.Proofs.YtfmiioddhpkdkaaGreat.Lok
open Go.RowKit Go.Proofs.YtfmiioddhpkdkaaGreat.Ara
structure Ac where
 kind:Int
 i:Int
def round {X:Type}(f:X→Ac→X)(x:X):Nat→X
 |0=>x
 |k+1=>f (f (round f x k) ⟨0,k⟩) ⟨2,k⟩
structure Rnd {X C:Type}(f:X→Ac→X)(core:X→C)(wt:C→Nat)(Good:X→Prop)(Ready:C→Nat→Prop)(n:Nat):Prop where
 g:∀x c,Good x→Good (f x c)
 d:∀x (i:Nat) (k:Int),k=0∨k=2→Good x→wt (core (f x ⟨k,i⟩))<wt (core x)∨core (f x ⟨k,i⟩)=core x
 ex:∀x,Good x→0<wt (core x)→∃i,i<n∧Ready (core x) i
 go:∀x (i:Nat),Good x→Ready (core x) i→wt (core (f (f x ⟨0,i⟩) ⟨2,i⟩))<wt (core x)
section
variable {X C:Type}{f:X→Ac→X}{core:X→C}{wt:C→Nat}{Good:X→Prop}{Ready:C→Nat→Prop}{n:Nat}(h:Rnd f core wt Good Ready n)
include h
end
end Go.Proofs.YtfmiioddhpkdkaaGreat.Lok
namespace Go.Proofs.YtfmiioddhpkdkaaGreat.Lok
open Go.RowKit Go.Proofs.YtfmiioddhpkdkaaGreat.Ara
def Rw (B:Nat)(W:World)(A:Option Addr)(c n:Nat)(l:List Int):Prop:=W.ownsRow B 3 1 (.slice A n c) n (l.map vI)
theorem Rw.mod {S:List Nat}{B:Nat}{W W':World}{A:Option Addr}{c n:Nat}{l:List Int}(h:Rw B W A c n l)(hm:Mod S W W')(hS:∀k∈S,k<B):Rw B W' A c n l:=own_mod h hm hS
theorem Rw.same {B:Nat}{W W':World}{A:Option Addr}{c n:Nat}{l:List Int}(h:Rw B W A c n l)(hb:Below W.heap.size W W'):Rw B W' A c n l:=h.mod (S:=[]) (Mod.of_below hb) (by simp)
theorem Rw.sl {B:Nat}{W:World}{A:Option Addr}{c n:Nat}{l:List Int}(h:Rw B W A c n l):Sl W W.heap.size A (l.flatMap decI):=by
 obtain⟨A',c',h1,_,_,h2⟩:=own_slice h;injection h1 with h1 _ _;subst h1;rw[flatI];exact h2
theorem wpList_append1_at {P:Program}{ops:Array Oper}{rest:List Oper}{o:Oper}{a:Act}{Q:Exit→Act→World→Prop}(s x:Operand)(t e:TypeId)(z:Value)(size bytes:Nat)
 (hgd:o.guard=none) (ho:o.op= .call {callee:= .builtin .append,args:= #[s,x],argTypes:= #[t,t]}) (ht:P.underlying t=some (.slice e))
 (hinfo:(P.info? e).map (fun i=>(i.zero,i.size,i.bytes))=some (some z,size,bytes)) (hzs:z.cells.size=size) (hsz:0<size)
 (base:Nat) (w:World) (v:Value) (n:Nat) (xs:List Value) (news:Array Value) (e':TypeId) (c g:Nat) (hown:w.ownsRow base e size v n xs) (hs:a.eval s=v) (hx:a.eval x= .slice (some ⟨g,0,none⟩) 1 c) (hgs:w.heap.size=g)
 (hl:news.size=size) (h1:∀u∈news.toList,u.oneCell'=true) (h63:n+1≤maxLen) (hbytes:(n+1)*bytes≤140737488355328) (hbase:base≤w.heap.size)
 (h:∀v' w',Hid (w'.ownsRow base e size v' (n+1) (xs++news.toList))→Hid (w.grownBy w' v.ownBlock)→Hid (∀b,v'.ownBlock=some b→v.ownBlock=some b∨w.heap.size≤b)→wpList P ops Q rest (a.put o.dst v') w'):
 wpList P ops Q (o::rest) a (w.alloc (.cells news e')):=by
 subst hgs;obtain⟨i0,hi0,hz0,hz1,hz2⟩:=info_parts hinfo;refine wpList_append_own_at _ hgd s x t ho base e i0 z size bytes ht hi0 hz0 hz1 hz2 hzs hsz v n xs hs (hown.alloc _) ⟨w.heap.size,0,none⟩ 1 c news.toList hx (by simpa using hl) ?_ h1 h63 hbytes (by simp;omega) ?_
 ·intro j u hu
  have hadd:(⟨w.heap.size,0,none⟩:Addr).add j=⟨w.heap.size,j,none⟩:=by unfold Addr.add;split<;>simp_all
  rw[hadd,World.cell?_alloc_at _ _ _ _ rfl];simpa using hu
 ·intro v' w' h2 h3 _ h4
  have hg:=grown_trans (World.grownBy_alloc w (.cells news e') v.ownBlock) h3;refine h v' w' h2 hg (fun b hb=> ?_);rcases h4 with h4|h4
  ·left;rw[←h4];exact hb
  ·right
   rw[h4]at hb;injection hb with hb;rw[←hb];simp
end Go.Proofs.YtfmiioddhpkdkaaGreat.Lok
namespace Go.Proofs.YtfmiioddhpkdkaaGreat.Ta
open Go.RowKit Go.Proofs.YtfmiioddhpkdkaaGreat.Ara Go.Proofs.YtfmiioddhpkdkaaGreat.Lok
structure Par where
 word:Int
 most:Int
def LkAt (W:World)(gl ga ha hs:Nat)(P:Par)(σ:Ar)(sp:List Sp):Prop:=
 ArAt W ga ha σ∧SpAt W hs sp∧sp.length≤32∧(∃c:Nat,W.heap[gl]? =some (.cells #[.pointer (some ⟨ga,0,none⟩),.int .i64 P.word,.int .i64 P.most,.slice (some ⟨hs,0,none⟩) sp.length c] 263 (0,0)))∧gl≠ga∧gl≠ha∧gl≠hs∧hs≠ga∧hs≠ha
theorem LkAt.mod {S:List Nat}{W W':World}{gl ga ha hs:Nat}{P:Par}{σ:Ar}{sp:List Sp}(k:LkAt W gl ga ha hs P σ sp)(hm:Mod S W W')(h1:gl∉S)(h2:ga∉S)(h3:ha∉S)(h4:hs∉S):LkAt W' gl ga ha hs P σ sp:=by
 obtain⟨k1,k2,k3,⟨c,k4⟩,k5⟩:=k;exact⟨k1.mod hm h2 h3,k2.mod hm h4,k3,⟨c,hm.blk k4 h1⟩,k5⟩
theorem LkAt.same {W W':World}{gl ga ha hs:Nat}{P:Par}{σ:Ar}{sp:List Sp}(k:LkAt W gl ga ha hs P σ sp)(hb:Below W.heap.size W W'):LkAt W' gl ga ha hs P σ sp:=
 k.mod (S:=[]) (Mod.of_below hb) (by simp) (by simp) (by simp) (by simp)
theorem LkAt.drewN {W:World}{gl ga ha hs:Nat}{P:Par}{σ:Ar}{sp:List Sp}(k:LkAt W gl ga ha hs P σ sp)(n:Nat):LkAt (W.drewN n) gl ga ha hs P σ sp:=k
theorem LkAt.arena {W W':World}{gl ga ha hs:Nat}{P:Par}{σ σ':Ar}{sp:List Sp}(k:LkAt W gl ga ha hs P σ sp)(ha':ArAt W' ga ha σ')(hm:Mod [ga,ha] W W'):LkAt W' gl ga ha hs P σ' sp:=by
 obtain⟨_,k2,k3,⟨c,k4⟩,d1,d2,d3,d4,d5⟩:=k;exact⟨ha',k2.mod hm (by simp;omega),k3,⟨c,hm.blk k4 (by simp;omega)⟩,d1,d2,d3,d4,d5⟩
theorem LkAt.spots {W W':World}{gl ga ha hs:Nat}{P:Par}{σ:Ar}{sp sp':List Sp}(k:LkAt W gl ga ha hs P σ sp)(hs':SpAt W' hs sp')(hm:Mod [hs] W W')(hl:sp'.length=sp.length):LkAt W' gl ga ha hs P σ sp':=by
 obtain⟨k1,_,k3,⟨c,k4⟩,d1,d2,d3,d4,d5⟩:=k;refine⟨k1.mod hm (by simp;omega) (by simp;omega),hs',by omega,⟨c,?_⟩,d1,d2,d3,d4,d5⟩;have:=hm.blk k4 (by simp;omega);rw[hl];exact this
theorem LkAt.heads {W:World}{gl ga ha hs:Nat}{P:Par}{σ:Ar}{sp:List Sp}(k:LkAt W gl ga ha hs P σ sp):(∃c:Nat,W.cell? ⟨gl,0,none⟩=some (.pointer (some ⟨ga,0,none⟩))∧W.cell? ⟨gl,1,none⟩=some (.int .i64 P.word)∧W.cell? ⟨gl,2,none⟩=some (.int .i64 P.most)∧W.cell? ⟨gl,3,none⟩=some (.slice (some ⟨hs,0,none⟩) sp.length c))∧sp.length≤32:=by
 obtain⟨_,_,k3,⟨c,k4⟩,_⟩:=k;exact⟨⟨c,blk_cell k4 0 (by simp),blk_cell k4 1 (by simp),blk_cell k4 2 (by simp),blk_cell k4 3 (by simp)⟩,k3⟩
section
variable(gl ga ha hs:Nat)(P:Par)(σ:Ar)(sp:List Sp)(w:World)(H:LkAt w gl ga ha hs P σ sp)
include H
theorem slots_lk:Calls Tryz.prog 338 #[.pointer (some ⟨gl,0,none⟩)] w fun e w'=>e= .returned (.int .i64 sp.length)∧w'=w:=by
 obtain⟨⟨cc,q0,q1,q2,q3⟩,hl⟩:=H.heads;clear H;go_enter Tryz.func338,Tryz.ntmps338;go_wp2_with fail;go_ret;exact⟨rfl,rfl⟩
theorem spot_out_lk (i:Int)(hi:i<0∨(sp.length:Int)≤i):Calls Tryz.prog 341 #[.pointer (some ⟨gl,0,none⟩),.int .i64 i] w fun e w'=>e= .returned (.pointer none)∧w'=w:=by
 have HS:=Lib.hid (slots_lk gl ga ha hs P σ sp w H);obtain⟨⟨cc,q0,q1,q2,q3⟩,hl⟩:=H.heads;clear H;by_cases h0:i<0
 ·go_enter Tryz.func341,Tryz.ntmps341
  go_wp2_with fail;go_ret;exact⟨rfl,rfl⟩
 ·have h1:(sp.length:Int)≤i:=by omega
  go_enter Tryz.func341,Tryz.ntmps341;go_wp2_with fail;refine(HS.out).mono ?_;rintro e wx ⟨rfl,hwx⟩;obtain rfl:=hwx.symm;go_wp2_with fail;go_ret;exact⟨rfl,rfl⟩
theorem spot_in_lk (k:Nat)(hk:k<sp.length):Calls Tryz.prog 341 #[.pointer (some ⟨gl,0,none⟩),.int .i64 (k:Int)] w fun e w'=>e= .returned (.pointer (some ⟨hs,k*4,none⟩))∧w'=w:=by
 have HS:=Lib.hid (slots_lk gl ga ha hs P σ sp w H);obtain⟨⟨cc,q0,q1,q2,q3⟩,hl⟩:=H.heads;have h1:(k:Int)<(sp.length:Int):=by omega
 have h2:(0:Int)≤(k:Int):=by omega
 clear H;go_enter Tryz.func341,Tryz.ntmps341;go_wp2_with fail;refine(HS.out).mono ?_;rintro e wx ⟨rfl,hwx⟩;obtain rfl:=hwx.symm;go_wp2_with fail;go_ret;exact⟨rfl,rfl⟩
theorem Spot_lk (i:Int):Calls Tryz.prog 339 #[.pointer (some ⟨gl,0,none⟩),.int .i64 i] w fun e w'=>e= .returned (.agg #[.int .i64 (spOf sp i).pc,.int .i64 (spOf sp i).a,.int .i64 (spOf sp i).b,.int .i64 (spOf sp i).c])∧Below w.heap.size w w':=by
 by_cases hi:i<0∨(sp.length:Int)≤i
 ·rw[spOf_out hi]
  have HS:=Lib.hid (fun W K=>spot_out_lk gl ga ha hs P σ sp W K i hi);have HH:=Lib.hid (H.same (below_new w (.cells #[.int .i64 0,.int .i64 0,.int .i64 0,.int .i64 0] 134)));clear H hi;go_enter Tryz.func339,Tryz.ntmps339;go_wp2_with fail;refine(HS.out _ HH.out).mono ?_;rintro e wx ⟨rfl,hwx⟩;obtain rfl:=hwx.symm;go_wp2_with fail;exact bodyPost_ret (v:= .agg #[.int .i64 0,.int .i64 0,.int .i64 0,.int .i64 0]) (by simp[results,Tryz.results339,go_sem]) rfl ⟨rfl,(Below.refl _ _).alloc (Nat.le_refl _) _⟩
 ·obtain⟨k,rfl⟩:=Int.eq_ofNat_of_zero_le (show 0≤i by omega)
  have hk:k<sp.length:=by omega
  have HS:=Lib.hid (fun W K=>spot_in_lk gl ga ha hs P σ sp W K k hk);have HH:=Lib.hid (H.same (below_new w (.cells #[.int .i64 0,.int .i64 0,.int .i64 0,.int .i64 0] 134)));obtain⟨c0,c1,c2,c3,_⟩:=H.2.1.cells k hk;have hlt:=H.2.1.lt;have e0:=spOf_in hk;rw[e0];clear H hi e0;generalize sp[k]=s at*;obtain⟨xp,xa,xb,xc⟩:=s;simp only at c0 c1 c2 c3⊢;go_enter Tryz.func339,Tryz.ntmps339;go_wp2_with fail;refine(HS.out _ HH.out).mono ?_;rintro e wx ⟨rfl,hwx⟩;obtain rfl:=hwx.symm;go_wp2_with fail;exact bodyPost_ret (v:= .agg #[.int .i64 xp,.int .i64 xa,.int .i64 xb,.int .i64 xc]) (by simp[results,Tryz.results339,go_sem]) rfl ⟨rfl,(Below.refl _ _).alloc (Nat.le_refl _) _⟩
end
end Go.Proofs.YtfmiioddhpkdkaaGreat.Ta
namespace Go.Proofs.YtfmiioddhpkdkaaGreat.Ta
open Go.RowKit Go.Proofs.YtfmiioddhpkdkaaGreat.Ara Go.Proofs.YtfmiioddhpkdkaaGreat.Lok
section
variable(gl ga ha hs:Nat)(P:Par)(σ:Ar)(sp:List Sp)(w:World)(H:LkAt w gl ga ha hs P σ sp)(k:Nat)(hk:k<sp.length)
include H hk
set_option maxHeartbeats 4000000 in
set_option maxRecDepth 100000 in
theorem ask_yes (hp:sp[k].pc=0)(sp2:List Sp)(h2:sp2=sp.set k {sp[k]with pc:=1,a:=1}):Calls Tryz.prog 336 #[.pointer (some ⟨gl,0,none⟩),.int .i64 (k:Int)] w fun e w'=>e= .returned (.bool true)∧LkAt w' gl ga ha hs P σ sp2∧Mod [hs] w w':=by
 have HS:=Lib.hid (spot_in_lk gl ga ha hs P σ sp w H k hk);obtain⟨⟨cc,q0,q1,q2,q3⟩,hl32⟩:=H.heads;obtain⟨d1,d2,d3,d4,d5⟩:=H.2.2.2.2;obtain⟨s0,s1,s2,s3,sf⟩:=H.2.1.cells k hk;rw[hp]at s0;have HH:=Lib.hid H;have HP:=Lib.hid hp;have hu1:LkAt (w.setCell ⟨hs,k*4,none⟩ (.int .i64 1)) gl ga ha hs P σ (sp.set k {sp[k]with pc:=1}):=H.spots (H.2.1.setPc k hk 1) ((Mod.refl [hs] w).setCell (by simp) _) (by rw[List.length_set]);have hkk:k<(sp.set k {sp[k]with pc:=1}).length:=by rw[List.length_set];exact hk
 have hu2:=hu1.spots (hu1.2.1.setA k hkk 1) ((Mod.refl [hs] _).setCell (by simp) _) (by rw[List.length_set])
 have e:(sp.set k {sp[k]with pc:=1}).set k {(sp.set k {sp[k]with pc:=1})[k]with a:=1}=sp2:=by
  have e0:(sp.set k {sp[k]with pc:=1})[k]={sp[k]with pc:=1}:=List.getElem_set_self hkk;rw[e0,List.set_set,h2]
 rw[e]at hu2;have HU:=Lib.hid hu2;have f0:=sf (k*4);have f1:=sf (k*4+1);clear hu1 hu2 e h2 hkk H hp;go_enter Tryz.func336,Tryz.ntmps336;go_wp2_with fail;refine(HS.out).mono ?_;rintro e wx ⟨rfl,hwx⟩;obtain rfl:=hwx.symm;go_wp2_with fail;go_ret;exact⟨rfl,HU.out,((Mod.refl _ _).setCell (by simp) _).setCell (by simp) _⟩
set_option maxHeartbeats 4000000 in
set_option maxRecDepth 100000 in
theorem leave_yes (hp:sp[k].pc=10)(sp2:List Sp)(h2:sp2=sp.set k {sp[k]with pc:=11}):Calls Tryz.prog 337 #[.pointer (some ⟨gl,0,none⟩),.int .i64 (k:Int)] w fun e w'=>e= .returned (.bool true)∧LkAt w' gl ga ha hs P σ sp2∧Mod [hs] w w':=by
 have HS:=Lib.hid (spot_in_lk gl ga ha hs P σ sp w H k hk);obtain⟨⟨cc,q0,q1,q2,q3⟩,hl32⟩:=H.heads;obtain⟨d1,d2,d3,d4,d5⟩:=H.2.2.2.2;obtain⟨s0,s1,s2,s3,sf⟩:=H.2.1.cells k hk;rw[hp]at s0;have HH:=Lib.hid H;have HP:=Lib.hid hp;have HU:=Lib.hid (show LkAt (w.setCell ⟨hs,k*4,none⟩ (.int .i64 11)) gl ga ha hs P σ sp2 by rw[h2];exact H.spots (H.2.1.setPc k hk 11) ((Mod.refl [hs] w).setCell (by simp) _) (by rw[List.length_set]));have f0:=sf (k*4);clear h2 H hp;go_enter Tryz.func337,Tryz.ntmps337;go_wp2_with fail;refine(HS.out).mono ?_;rintro e wx ⟨rfl,hwx⟩;obtain rfl:=hwx.symm;go_wp2_with fail;go_ret;exact⟨rfl,HU.out,(Mod.refl _ _).setCell (by simp) _⟩
set_option maxHeartbeats 4000000 in
set_option maxRecDepth 100000 in
theorem step_one_yes (ho:σ.ops≤1000000)(hp:sp[k].pc=1)(hc:(σ.has P.word&&(σ.get P.word==0))=true)(sp2:List Sp)(h2:sp2=sp.set k {sp[k]with pc:=10}):Calls Tryz.prog 340 #[.pointer (some ⟨gl,0,none⟩),.int .i64 (k:Int)] w fun e w'=>e= .returned (.bool true)∧LkAt w' gl ga ha hs P (σ.op 4 P.word true ((k:Int)+1)) sp2∧Mod [ga,ha,hs] w w':=by
 have HSt:=fun W (K:LkAt W gl ga ha hs P σ sp)=>cas_any ga ha σ W K.1 ho P.word 0 ((k:Int)+1);rw[hc]at HSt;replace HSt:=Lib.hid HSt;have HS:=Lib.hid (spot_in_lk gl ga ha hs P σ sp w H k hk);obtain⟨⟨cc,q0,q1,q2,q3⟩,hl32⟩:=H.heads;obtain⟨d1,d2,d3,d4,d5⟩:=H.2.2.2.2;obtain⟨s0,s1,s2,s3,sf⟩:=H.2.1.cells k hk;rw[hp]at s0;have HH:=Lib.hid H;have HP:=Lib.hid hp;have HC:=Lib.hid (fun W (K:LkAt W gl ga ha hs P (σ.op 4 P.word true ((k:Int)+1)) sp)=>show W.cell? ⟨hs,k*4,none⟩=some (.int .i64 sp[k].pc)∧W.frozen? ⟨hs,k*4,none⟩=false∧LkAt (W.setCell ⟨hs,k*4,none⟩ (.int .i64 10)) gl ga ha hs P (σ.op 4 P.word true ((k:Int)+1)) sp2 from⟨(K.2.1.cells k hk).1,(K.2.1.cells k hk).2.2.2.2 _,by rw[h2];exact K.spots (K.2.1.setPc k hk 10) ((Mod.refl [hs] W).setCell (by simp) _) (by rw[List.length_set])⟩);have e1:IntKind.i64.wrap ((k:Int)+1)=(k:Int)+1:=IntWalk.i64_in _ (by omega);generalize σ.op 4 P.word true ((k:Int)+1)=σ2 at*;generalize sp[k].pc=xp at*;clear h2 H hp hc ho;go_enter Tryz.func340,Tryz.ntmps340;go_wp2_with fail;refine(HS.out).mono ?_;rintro e wx ⟨rfl,hwx⟩;obtain rfl:=hwx.symm;go_wp2_with fail
 go_region_held3(fun V=>V.cell? ⟨gl,0,none⟩=some (.pointer (some ⟨ga,0,none⟩))∧V.cell? ⟨gl,1,none⟩=some (.int .i64 P.word))
  (first|exact⟨q0,q1⟩|exact k2)
  (first
   |(go_at_call 202;refine(HSt.out _ (HH.out.drewN 1)).mono ?_;rintro e w2 ⟨rfl,ha2,hm2⟩;have k2:=And.intro (keepM hm2 (show(w.drewN 1).cell? _=_ from q0) (by simp;omega)) (keepM hm2 (show(w.drewN 1).cell? _=_ from q1) (by simp;omega));have H2:=Lib.hid ((HH.out.drewN 1).arena ha2 hm2)))
 have hmm:Mod [ga,ha,hs] w w2:=((Mod.refl _ _).drewN 1).trans (hm2.sub (by simp));clear k2 ha2 hm2;obtain⟨c0,f0,h3⟩:=HC.out _ H2.out;have H3:=Lib.hid h3;clear h3;go_wp2_with fail;go_ret;exact⟨rfl,H3.out,hmm.setCell (by simp) _⟩
set_option maxHeartbeats 4000000 in
set_option maxRecDepth 100000 in
theorem step_out (ho:σ.ops≤1000000)(hp:sp[k].pc=11)(sp2:List Sp)(h2:sp2=sp.set k {sp[k]with pc:=0}):Calls Tryz.prog 340 #[.pointer (some ⟨gl,0,none⟩),.int .i64 (k:Int)] w fun e w'=>e= .returned (.bool true)∧LkAt w' gl ga ha hs P (σ.op 2 P.word true 0) sp2∧Mod [ga,ha,hs] w w':=by
 have HSt:=Lib.hid (fun W (K:LkAt W gl ga ha hs P σ sp)=>store_any ga ha σ W K.1 ho P.word 0);have HS:=Lib.hid (spot_in_lk gl ga ha hs P σ sp w H k hk);obtain⟨⟨cc,q0,q1,q2,q3⟩,hl32⟩:=H.heads;obtain⟨d1,d2,d3,d4,d5⟩:=H.2.2.2.2;obtain⟨s0,s1,s2,s3,sf⟩:=H.2.1.cells k hk;rw[hp]at s0;have HH:=Lib.hid H;have HP:=Lib.hid hp;have HC:=Lib.hid (fun W (K:LkAt W gl ga ha hs P (σ.op 2 P.word true 0) sp)=>show W.cell? ⟨hs,k*4,none⟩=some (.int .i64 sp[k].pc)∧W.frozen? ⟨hs,k*4,none⟩=false∧LkAt (W.setCell ⟨hs,k*4,none⟩ (.int .i64 0)) gl ga ha hs P (σ.op 2 P.word true 0) sp2 from⟨(K.2.1.cells k hk).1,(K.2.1.cells k hk).2.2.2.2 _,by rw[h2];exact K.spots (K.2.1.setPc k hk 0) ((Mod.refl [hs] W).setCell (by simp) _) (by rw[List.length_set])⟩);generalize σ.op 2 P.word true 0=σ2 at*;generalize sp[k].pc=xp at*;clear h2 H hp ho;go_enter Tryz.func340,Tryz.ntmps340;go_wp2_with fail;refine(HS.out).mono ?_;rintro e wx ⟨rfl,hwx⟩;obtain rfl:=hwx.symm;go_wp2_with fail
 go_region_held3(fun V=>V.cell? ⟨gl,0,none⟩=some (.pointer (some ⟨ga,0,none⟩))∧V.cell? ⟨gl,1,none⟩=some (.int .i64 P.word))
  (first|exact⟨q0,q1⟩|exact k2)
  (first
   |(go_at_call 109;refine(HSt.out _ (HH.out.drewN 1)).mono ?_;rintro e w2 ⟨rfl,ha2,hm2⟩;have k2:=And.intro (keepM hm2 (show(w.drewN 1).cell? _=_ from q0) (by simp;omega)) (keepM hm2 (show(w.drewN 1).cell? _=_ from q1) (by simp;omega));have H2:=Lib.hid ((HH.out.drewN 1).arena ha2 hm2)))
 have hmm:Mod [ga,ha,hs] w w2:=((Mod.refl _ _).drewN 1).trans (hm2.sub (by simp));clear k2 ha2 hm2;obtain⟨c0,f0,h3⟩:=HC.out _ H2.out;have H3:=Lib.hid h3;clear h3;go_wp2_with fail;go_ret;exact⟨rfl,H3.out,hmm.setCell (by simp) _⟩
end
theorem infoSp:(Tryz.prog.info? 134).map (fun i=>(i.zero,i.size,i.bytes))=some (some (.agg #[.int .i64 0,.int .i64 0,.int .i64 0,.int .i64 0]),4,32):=by kernel_rfl
def zeroS (n:Nat):List Sp:=List.replicate n sp0
theorem zeroS_flat (n:Nat):((List.replicate n ((Value.agg #[.int .i64 0,.int .i64 0,.int .i64 0,.int .i64 0]).cells.toList)).flatten).toArray=((zeroS n).flatMap decSp).toArray:=by
 congr 1
 induction n with
 |zero=>rfl
 |succ n ih=>rw[List.replicate_succ,List.flatten_cons,ih,zeroS,zeroS,List.replicate_succ,List.flatMap_cons];rfl
theorem make_spots (n:Nat)(h:n≤65536)(W:World):(Instr.makeSlice 173 (.int .i64 (n:Int)) (.int .i64 (n:Int))).run Tryz.prog W= .ok (.slice (some ⟨W.heap.size,0,none⟩) n n) (W.alloc (.cells ((zeroS n).flatMap decSp).toArray 134)):=by
 rw[run_make_rows (P:=Tryz.prog) 173 134 (.agg #[.int .i64 0,.int .i64 0,.int .i64 0,.int .i64 0]) 4 32 Tryz.underlying173 infoSp rfl .i64 .i64 n (by omega) (by omega) W,zeroS_flat]
theorem spAt_new (W:World)(n:Nat):SpAt (W.alloc (.cells ((zeroS n).flatMap decSp).toArray 134)) W.heap.size (zeroS n):=
 ⟨_,blk_new _ _,by rw[List.take_of_length_le (by rw[flat_len decSp_len];omega)]⟩
set_option maxHeartbeats 4000000 in
set_option maxRecDepth 100000 in
theorem new_lk (ga ha:Nat)(σ σ1:Ar)(w:World)(H:ArAt w ga ha σ)(hh:ha<w.heap.size)(n:Nat)(n1:1≤n)(n2:n≤32)(most:Int)(m1:1≤most)(m2:most≤1024)(next:Int)
 (ht:σ.take 1=((next,0),σ1)):
 Calls Tryz.prog 96 #[.pointer (some ⟨ga,0,none⟩),.int .i64 (n:Int),.int .i64 most] w fun e w'=>∃gl hs,e= .returned (.tuple #[.pointer (some ⟨gl,0,none⟩),.int .i64 0])∧LkAt w' gl ga ha hs ⟨next,most⟩ σ1 (zeroS n)∧w.heap.size≤gl∧w.heap.size≤hs∧Mod [ga,ha] w w':=by
 have HT:=take_any ga ha σ w H 1;rw[ht]at HT;replace HT:=Lib.hid HT;have hmk:=fun W=>make_spots n (by omega) W;have hga:=H.lt;have i1:(1:Int)≤(n:Int):=by omega
 have i2:(n:Int)≤32:=by omega
 clear H ht;go_enter Tryz.func96,Tryz.ntmps96;go_wp2_with fail;refine HT.out.mono ?_;rintro e w2 ⟨rfl,h2,hm2⟩;have H2:=Lib.hid h2;clear h2;have hz2:=hm2.size
 have hK:LkAt ((w2.alloc (.cells ((zeroS n).flatMap decSp).toArray 134)).alloc (.cells #[.pointer (some ⟨ga,0,none⟩),.int .i64 next,.int .i64 most,.slice (some ⟨w2.heap.size,0,none⟩) n n] 263)) (w2.heap.size+1) ga ha w2.heap.size ⟨next,most⟩ σ1 (zeroS n):=by
  have hb:=(below_new w2 (.cells ((zeroS n).flatMap decSp).toArray 134));have hb2:=below_new (w2.alloc (.cells ((zeroS n).flatMap decSp).toArray 134)) (.cells #[.pointer (some ⟨ga,0,none⟩),.int .i64 next,.int .i64 most,.slice (some ⟨w2.heap.size,0,none⟩) n n] 263);have hbl:=blk_new (w2.alloc (.cells ((zeroS n).flatMap decSp).toArray 134)) (.cells #[.pointer (some ⟨ga,0,none⟩),.int .i64 next,.int .i64 most,.slice (some ⟨w2.heap.size,0,none⟩) n n] 263);have hzl:(zeroS n).length=n:=by simp[zeroS]
  refine⟨(H2.out.step hb).step hb2,(spAt_new w2 n).mod (S:=[]) (Mod.of_below hb2) (by simp),by omega,⟨n,?_⟩,by omega,by omega,by omega,by omega,by omega⟩;rw[hzl];simpa using hbl
 have hmm:Mod [ga,ha] w ((w2.alloc (.cells ((zeroS n).flatMap decSp).toArray 134)).alloc (.cells #[.pointer (some ⟨ga,0,none⟩),.int .i64 next,.int .i64 most,.slice (some ⟨w2.heap.size,0,none⟩) n n] 263)):=(hm2.alloc _).alloc _;have HK:=Lib.hid hK;clear H2 hm2 hK;have e0:(w2.alloc (.cells ((zeroS n).flatMap decSp).toArray 134)).heap.size=w2.heap.size+1:=by simp
 go_wp2_with fail;go_ret2;exact⟨w2.heap.size+1,w2.heap.size,rfl,HK.out,by omega,hz2,hmm⟩
end Go.Proofs.YtfmiioddhpkdkaaGreat.Ta
namespace Go.Proofs.YtfmiioddhpkdkaaGreat.Mc
open Go.RowKit Go.Proofs.YtfmiioddhpkdkaaGreat.Ara Go.Proofs.YtfmiioddhpkdkaaGreat.Lok
structure Par where
 tail:Int
def nx (P:Par)(x:Int):Int:=P.tail+2*x-1
def wt (P:Par)(x:Int):Int:=P.tail+2*x
def stepP (P:Par)(σ:Ar)(sp:List Sp)(i:Int):Bool×Ar×List Sp:=
 if(spOf sp i).pc=1 then(false,σ.op 2 (nx P (i+1)) true 0,sp.set i.toNat {spOf sp i with pc:=2})
 else if(spOf sp i).pc=2 then(false,σ.op 2 (wt P (i+1)) true 1,sp.set i.toNat {spOf sp i with pc:=3})
 else if(spOf sp i).pc=3 then(σ.get P.tail==0,σ.op 3 P.tail true (i+1),sp.set i.toNat {spOf sp i with pc:=if σ.get P.tail=0 then 10 else 4,a:=σ.get P.tail})
 else if(spOf sp i).pc=4 then(false,σ.op 2 (nx P (spOf sp i).a) true (i+1),sp.set i.toNat {spOf sp i with pc:=5})
 else if(spOf sp i).pc=5 then(σ.get (wt P (i+1))==0,σ.op 1 (wt P (i+1)) false 0,sp.set i.toNat {spOf sp i with pc:=if σ.get (wt P (i+1))=0 then 10 else 5})
 else if(spOf sp i).pc=11 then(false,σ.op 1 (nx P (i+1)) false 0,sp.set i.toNat {spOf sp i with pc:=if σ.get (nx P (i+1))=0 then 12 else 14,a:=σ.get (nx P (i+1))})
 else if(spOf sp i).pc=12 then(σ.has P.tail&&(σ.get P.tail==i+1),σ.op 4 P.tail (σ.has P.tail&&(σ.get P.tail==i+1)) 0,sp.set i.toNat {spOf sp i with pc:=if(σ.has P.tail&&(σ.get P.tail==i+1))=true then 0 else 13})
 else if(spOf sp i).pc=13 then(false,σ.op 1 (nx P (i+1)) false 0,sp.set i.toNat {spOf sp i with pc:=if σ.get (nx P (i+1))=0 then 13 else 14,a:=σ.get (nx P (i+1))})
 else if(spOf sp i).pc=14 then(true,σ.op 2 (wt P (spOf sp i).a) true 0,sp.set i.toNat {spOf sp i with pc:=0})
 else(false,σ,sp)
def aloneP (P:Par)(σ:Ar)(sp:List Sp)(i:Int):Bool×Ar:=
 if(spOf sp i).pc=10 then(σ.get (nx P (i+1))==0,σ.op 1 (nx P (i+1)) false 0)else(false,σ)
def doP (P:Par)(σ:Ar)(sp:List Sp)(kd i:Int):Bool×Ar×List Sp:=
 if kd=0 then stepP P σ sp i else if kd=1 then(turnB sp i 0,σ,turnS sp i 0 1)else if kd=2 then(turnB sp i 10,σ,turnS sp i 10 11)
 else if kd=3 then((aloneP P σ sp i).1,(aloneP P σ sp i).2,sp)else(false,σ,sp)
def outs (s:Sp):Prop:=s.pc=10∨s.pc=11∨s.pc=12∨s.pc=13∨s.pc=14
def inq (s:Sp):Prop:=s.pc=4∨s.pc=5∨outs s
def tailOf:List Int→Int
 |[]=>0
 |[i]=>i+1
 |_::j::q=>tailOf (j::q)
def Chain (P:Par)(σ:Ar)(sp:List Sp):List Int→Prop
 |[]=>True
 |[i]=>σ.get (nx P (i+1))=0
 |i::j::q=>(((spOf sp j).pc=4∧(spOf sp j).a=i+1∧σ.get (nx P (i+1))=0)∨((spOf sp j).pc=5∧σ.get (nx P (i+1))=j+1))∧σ.get (wt P (j+1))=1∧Chain P σ sp (j::q)
theorem Chain.same {P:Par}{σ σ':Ar}{sp sp':List Sp}{q:List Int}(h:Chain P σ sp q)(hs:∀j,j∈q.tail→spOf sp' j=spOf sp j)(hg:∀j,j∈q→σ'.get (nx P (j+1))=σ.get (nx P (j+1)))(hw:∀j,j∈q.tail→σ'.get (wt P (j+1))=σ.get (wt P (j+1))):Chain P σ' sp' q:=by
 induction q with
 |nil=>trivial
 |cons i q ih=>
  cases q with
  |nil=>show _=_;rw[hg i (by simp)];exact h
  |cons j q=>
   obtain⟨h1,h2,h3⟩:=h;refine⟨?_,by rw[hw j (by simp)];exact h2,ih h3 (fun k hk=>hs k (by simp at hk⊢;exact .inr hk)) (fun k hk=>hg k (by simp at hk⊢;exact .inr hk)) (fun k hk=>hw k (by simp at hk⊢;exact .inr hk))⟩;rw[hs j (by simp),hg i (by simp)];exact h1
theorem tailOf_push (q:List Int)(i:Int):tailOf (q++ [i])=i+1:=by
 induction q with
 |nil=>rfl
 |cons k q ih=>
  cases q with
  |nil=>rfl
  |cons j q=>exact ih
theorem tailOf_mem {q:List Int}(h:q≠ []):∃j,j∈q∧tailOf q=j+1:=by
 induction q with
 |nil=>exact absurd rfl h
 |cons k q ih=>
  cases q with
  |nil=>exact⟨k,by simp,rfl⟩
  |cons j q=>
   obtain⟨m,m1,m2⟩:=ih (by simp);exact⟨m,by simp at m1⊢;exact .inr m1,m2⟩
theorem Chain.push {P:Par}{σ:Ar}{sp:List Sp}{q:List Int}{i:Int}(h:Chain P σ sp q)(h0:q≠ [])(h4:(spOf sp i).pc=4)(ha:(spOf sp i).a=tailOf q)(hl:σ.get (nx P (i+1))=0)(hw:σ.get (wt P (i+1))=1):Chain P σ sp (q++ [i]):=by
 induction q with
 |nil=>exact absurd rfl h0
 |cons k q ih=>
  cases q with
  |nil=>exact⟨.inl ⟨h4,ha,h⟩,hw,hl⟩
  |cons j q=>exact⟨h.1,h.2.1,ih h.2.2 (by simp) ha⟩
theorem Chain.link {P:Par}{σ σ':Ar}{sp sp':List Sp}{q:List Int}{i:Int}(h:Chain P σ sp q)(hi:i∈q.tail)(hn:q.Nodup)(h4:(spOf sp i).pc=4)(h5:(spOf sp' i).pc=5)(hs:∀j,j≠i→spOf sp' j=spOf sp j)
 (hg:∀j,σ'.get (nx P (j+1))=if j+1=(spOf sp i).a then i+1 else σ.get (nx P (j+1))) (hw:∀j,σ'.get (wt P (j+1))=σ.get (wt P (j+1))):Chain P σ' sp' q:=by
 induction q with
 |nil=>simp at hi
 |cons k q ih=>
  cases q with
  |nil=>simp at hi
  |cons j q=>
   obtain⟨h1,h2,h3⟩:=h;rw[List.nodup_cons]at hn;by_cases e:j=i
   ·subst e
    rcases h1 with⟨_,ha,hz⟩|⟨h1,_⟩
    ·refine⟨.inr ⟨h5,by rw[hg,if_pos ha.symm]⟩,by rw[hw];exact h2,?_⟩
     have hn2:=(List.nodup_cons.1 hn.2).1;refine h3.same (fun m hm=>hs m (fun e=>hn2 (by simp at hm;rw[←e];exact hm))) (fun m hm=> ?_) (fun m _=>hw m);rw[hg,if_neg];intro e;have:m=k:=by omega
     subst this;exact hn.1 hm
    ·omega
   ·have hi2:i∈q:=by
     simp at hi;rcases hi with hi|hi
     ·exact absurd hi.symm e
     ·exact hi
    refine⟨?_,by rw[hw];exact h2,ih h3 hi2 hn.2⟩
    have hk:¬k+1=(spOf sp i).a:=by
     have key:∀(m:Int) (q:List Int),Chain P σ sp (m::q)→i∈q→∃p,p∈(m::q)∧(spOf sp i).a=p+1:=by
      intro m q
      induction q generalizing m with
      |nil=>intro _ h;simp at h
      |cons n q ihq=>
       intro hc hm;obtain⟨c1,_,c3⟩:=hc;by_cases en:n=i
       ·subst en
        rcases c1 with⟨_,c,_⟩|⟨c,_⟩
        ·exact⟨m,by simp,c⟩
        ·omega
       ·obtain⟨p,p1,p2⟩:=ihq n c3 (by simp at hm;rcases hm with hm|hm;exact absurd hm.symm en;exact hm)
        exact⟨p,by simp at p1⊢;exact .inr p1,p2⟩
     obtain⟨p,p1,p2⟩:=key j q h3 hi2;intro e2;have:p=k:=by omega
     subst this;exact hn.1 p1
    rw[hs j e,hg,if_neg hk];exact h1
structure Inv (P:Par)(σ:Ar)(sp:List Sp)(q:List Int):Prop where
 hl:σ.t≤σ.ws.length
 t1:1≤P.tail
 t2:P.tail+2*sp.length≤σ.t
 pcs:∀i,(spOf sp i).pc=0∨(spOf sp i).pc=1∨(spOf sp i).pc=2∨(spOf sp i).pc=3∨inq (spOf sp i)
 ar:∀i,0≤(spOf sp i).a∧(spOf sp i).a≤sp.length
 mem:∀i,i∈q↔inq (spOf sp i)
 nd:q.Nodup
 first:∀i,outs (spOf sp i)→q.head? =some i
 gT:σ.get P.tail=tailOf q
 ch:Chain P σ sp q
 hd:∀i,q.head? =some i→(spOf sp i).pc≠4∧((spOf sp i).pc=5→σ.get (wt P (i+1))=0)
 p2:∀i,(spOf sp i).pc=2∨(spOf sp i).pc=3→σ.get (nx P (i+1))=0
 p3:∀i,(spOf sp i).pc=3→σ.get (wt P (i+1))=1
 p13:∀i,(spOf sp i).pc=13→q≠ [i]
 pa:∀i,(spOf sp i).pc=12∨(spOf sp i).pc=13→(spOf sp i).a=0
 p14:∀i,(spOf sp i).pc=14→(spOf sp i).a=σ.get (nx P (i+1))∧σ.get (nx P (i+1))≠0
theorem inq_range {sp:List Sp}{i:Int}(h:inq (spOf sp i)):0≤i∧i<sp.length:=spOf_range (by unfold inq outs at h;omega)
section
variable {P:Par}{σ:Ar}{sp:List Sp}{q:List Int}(h:Inv P σ sp q)
include h
theorem Inv.hasP (p:Int)(h0:P.tail≤p)(h1:p≤P.tail+2*sp.length):σ.has p=true:=by
 have:=h.t1;have:=h.t2;unfold Ar.has;rw[decide_eq_true (by omega),decide_eq_true (by omega)];rfl
theorem Inv.hasT:σ.has P.tail=true:=h.hasP _ (by omega) (by omega)
theorem Inv.hasN (x:Int)(h0:1≤x)(h1:x≤sp.length):σ.has (nx P x)=true:=h.hasP _ (by unfold nx;omega) (by unfold nx;omega)
theorem Inv.hasW (x:Int)(h0:0≤x)(h1:x≤sp.length):σ.has (wt P x)=true:=h.hasP _ (by unfold wt;omega) (by unfold wt;omega)
theorem Inv.range (i:Int)(hi:i∈q):0≤i∧i<sp.length:=inq_range ((h.mem i).1 hi)
theorem Inv.same {σ':Ar}(hw:σ'.ws.length=σ.ws.length)(ht:σ'.t=σ.t)(hg:∀p,σ'.get p=σ.get p):Inv P σ' sp q:=
 {h with hl:=by rw[ht,hw];exact h.hl,t2:=by rw[ht];exact h.t2,gT:=(hg _).trans h.gT,ch:=h.ch.same (fun _ _=>rfl) (fun _ _=>hg _) (fun _ _=>hg _),hd:=fun i hi=>⟨(h.hd i hi).1,fun e=>(hg _).trans ((h.hd i hi).2 e)⟩,p2:=fun i hi=>(hg _).trans (h.p2 i hi),p3:=fun i hi=>(hg _).trans (h.p3 i hi),p14:=fun i hi=>by rw[hg];exact h.p14 i hi}
theorem Inv.read (p v:Int):Inv P (σ.op 1 p false v) sp q:=h.same (op_len _ _ _ _ _) (op_t _ _ _ _ _) (fun q=>get_read σ h.hl 1 p v q)
theorem Inv.turns {σ':Ar}{sp':List Sp}(hlen:sp'.length=sp.length)(i:Int)(s':Sp)(hs:∀j,spOf sp' j=if j=i then s' else spOf sp j)(hw:σ'.ws.length=σ.ws.length)(ht:σ'.t=σ.t)
 (hT:σ'.get P.tail=σ.get P.tail) (hN:∀j,inq (spOf sp j)∨j≠i→0≤j→σ'.get (nx P (j+1))=σ.get (nx P (j+1))) (hW:∀j,inq (spOf sp j)∨j≠i→0≤j→σ'.get (wt P (j+1))=σ.get (wt P (j+1)))
 (hp:s'.pc=0∨s'.pc=1∨s'.pc=2∨s'.pc=3∨inq s') (ha:0≤s'.a∧s'.a≤sp.length) (hq:inq s'↔inq (spOf sp i)) (hf:inq s'→q.head? =some i) (h45:s'.pc≠4) (h5:s'.pc=5→σ.get (wt P (i+1))=0)
 (h2:s'.pc=2∨s'.pc=3→σ'.get (nx P (i+1))=0) (h3:s'.pc=3→σ'.get (wt P (i+1))=1) (h13:s'.pc=13→q≠ [i]) (hz:s'.pc=12∨s'.pc=13→s'.a=0) (h14:s'.pc=14→s'.a=σ.get (nx P (i+1))∧σ.get (nx P (i+1))≠0):Inv P σ' sp' q:=by
 have hQ:∀j,inq (spOf sp' j)↔inq (spOf sp j):=by
  intro j;rw[hs];split
  ·rename_i e;subst e;exact hq
  ·exact Iff.rfl
 have hr0:∀j,(spOf sp j).pc≠0→0≤j:=fun j hj=>(spOf_range hj).1
 have htl:∀j,j∈q.tail→j≠i:=by
  intro j hj e;subst e;have hjq:j∈q:=List.mem_of_mem_tail hj;have:=hf ((hq).2 ((h.mem j).1 hjq));cases q with
  |nil=>simp at this
  |cons k q=>
   obtain rfl:k=j:=by simpa using this
   exact(List.nodup_cons.1 h.nd).1 (by simpa using hj)
 refine {hl:= ?_,t1:=h.t1,t2:= ?_,pcs:= ?_,ar:= ?_,mem:= ?_,nd:=h.nd,first:= ?_,gT:=hT.trans h.gT,ch:= ?_,hd:= ?_,p2:= ?_,p3:= ?_,p13:= ?_,pa:= ?_,p14:= ?_}
 ·rw[ht,hw];exact h.hl
 ·rw[hlen,ht];exact h.t2
 ·intro j;rw[hs];split
  ·exact hp
  ·exact h.pcs j
 ·intro j;rw[hs,hlen];split
  ·exact ha
  ·exact h.ar j
 ·intro j;rw[hQ];exact h.mem j
 ·intro j hj
  rw[hs]at hj;split at hj
  ·rename_i e;subst e;exact hf (.inr (.inr hj))
  ·exact h.first j hj
 ·exact h.ch.same (fun j hj=>by rw[hs,if_neg (htl j hj)]) (fun j hj=>hN j (.inl ((h.mem j).1 hj)) (h.range j hj).1) (fun j hj=>hW j (.inl ((h.mem j).1 (List.mem_of_mem_tail hj))) (h.range j (List.mem_of_mem_tail hj)).1)
 ·intro j hj
  have hjq:j∈q:=List.mem_of_mem_head? hj;rw[hs];split
  ·rename_i e;subst e
   exact⟨h45,fun e5=>(hW j (.inl ((h.mem j).1 hjq)) (h.range j hjq).1).trans (h5 e5)⟩
  ·exact⟨(h.hd j hj).1,fun e5=>(hW j (.inl ((h.mem j).1 hjq)) (h.range j hjq).1).trans ((h.hd j hj).2 e5)⟩
 ·intro j hj
  rw[hs]at hj;split at hj
  ·rename_i e;subst e;exact h2 hj
  ·rename_i e;exact(hN j (.inr e) (hr0 j (by omega))).trans (h.p2 j hj)
 ·intro j hj
  rw[hs]at hj;split at hj
  ·rename_i e;subst e;exact h3 hj
  ·rename_i e;exact(hW j (.inr e) (hr0 j (by omega))).trans (h.p3 j hj)
 ·intro j hj
  rw[hs]at hj;split at hj
  ·rename_i e;subst e;exact h13 hj
  ·exact h.p13 j hj
 ·intro j hj
  rw[hs]at hj⊢;split at hj
  ·rename_i e;rw[if_pos e];exact hz hj
  ·rename_i e;rw[if_neg e];exact h.pa j hj
 ·intro j hj
  rw[hs]at hj⊢;split at hj
  ·rename_i e;subst e
   rw[if_pos rfl];have hi:inq s':=by unfold inq outs;omega
   have hjq:=(h.mem j).2 (hq.1 hi);rw[hN j (.inl (hq.1 hi)) (h.range j hjq).1];exact h14 hj
  ·rename_i e;rw[if_neg e]
   rw[hN j (.inr e) (hr0 j (by omega))];exact h.p14 j hj
theorem Inv.one (n:Nat):cnt (fun s=>s.pc==10) sp n≤1:=by
 refine cnt_one _ _ (fun i j hi hj=> ?_) n;simp only[beq_iff_eq]at hi hj;have h1:=h.first i (.inl hi);have h2:=h.first j (.inl hj);rw[h1]at h2;exact Option.some.inj h2
theorem Inv.linked (i:Int)(hp:outs (spOf sp i)):(∃j t,q=i::j::t∧(((spOf sp j).pc=4∧(spOf sp j).a=i+1∧σ.get (nx P (i+1))=0)∨((spOf sp j).pc=5∧σ.get (nx P (i+1))=j+1)))∨(q=[i]∧σ.get (nx P (i+1))=0):=by
 have hf:=h.first i hp;have hc:=h.ch;cases q with
 |nil=>simp at hf
 |cons k q=>
  obtain rfl:k=i:=by simpa using hf
  cases q with
  |nil=>exact .inr ⟨rfl,hc⟩
  |cons j t=>exact .inl ⟨j,t,rfl,hc.1⟩
theorem Inv.behind (i:Int)(hp:(spOf sp i).pc=10)(ha:(aloneP P σ sp i).1=false):0<cnt (fun s=>decide (0<s.pc)&&decide (s.pc<10)) sp sp.length:=by
 unfold aloneP at ha;rw[if_pos hp]at ha;simp at ha;rcases h.linked i (.inl hp)with⟨j,t,_,hj|hj⟩|⟨_,hj⟩
 ·exact absurd hj.2.2 ha
 ·obtain⟨r0,r1⟩:=spOf_range (sp:=sp) (i:=j) (by omega)
  exact cnt_some _ _ j (by rw[hj.1];rfl) r0 _ r1
 ·exact absurd hj ha
end
end Go.Proofs.YtfmiioddhpkdkaaGreat.Mc
