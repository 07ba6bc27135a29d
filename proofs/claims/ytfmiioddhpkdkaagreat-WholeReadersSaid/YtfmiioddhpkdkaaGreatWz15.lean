/- Merged texts: Cl5, ClI, FlS, Fl4, Fl5, Fl6. -/
import Derived.Test.YtfmiioddhpkdkaaGreatWz14
set_option linter.unusedVariables false
set_option linter.unusedSimpArgs false
set_option maxRecDepth 100000
set_option maxHeartbeats 8000000
namespace Go.Proofs.YtfmiioddhpkdkaaGreat.Cl
open Go.RowKit Ara Lok
theorem frame53 {a:Act}(h:a.tmps.size=53)(hd:a.defers=[]):∃u:Nat→Value,a={tmps:= #[u 0,u 1,u 2,u 3,u 4,u 5,u 6,u 7,u 8,u 9,u 10,u 11,u 12,u 13,u 14,u 15,u 16,u 17,u 18,u 19,u 20,u 21,u 22,u 23,u 24,u 25,u 26,u 27,u 28,u 29,u 30,u 31,u 32,u 33,u 34,u 35,u 36,u 37,u 38,u 39,u 40,u 41,u 42,u 43,u 44,u 45,u 46,u 47,u 48,u 49,u 50,u 51,u 52],defers:=[]}∧∀n,a.tmps.getD n undef=u n:=by
 refine⟨fun n=>a.tmps.getD n undef,?_,fun _=>rfl⟩;have h1:=arr_lit a.tmps h;cases a with
 |mk t d=>
  simp only at hd h1;subst hd;congr 1
theorem infoSp:(Tryz.prog.info? 134).map (fun i=>(i.zero,i.size,i.bytes))=some (some (.agg #[.int .i64 0,.int .i64 0,.int .i64 0,.int .i64 0]),4,32):=by kernel_rfl
theorem first0_succ (i:Nat):first0 (i+1)=first0 i++ [⟨0,(i:Int)+1,0,0⟩]:=by
 unfold first0;rw[List.range_succ,List.map_append];rfl
theorem first0_len (i:Nat):(first0 i).length=i:=by simp[first0]
def lkCells (ga:Nat)(tail:Int)(v:Value):Array Value:= #[.pointer (some ⟨ga,0,none⟩),.int .i64 tail,v]
def NwJ (N ga ha gl:Nat)(tail:Int)(σ:Ar)(w2:World)(a:Act)(W:World):Prop:=
 a.tmps.size=53∧a.defers=[]∧a.tmps.getD 0 undef= .pointer (some ⟨ga,0,none⟩)∧a.tmps.getD 1 undef= .int .i64 N∧a.tmps.getD 6 undef= .int .i64 tail∧a.tmps.getD 8 undef= .pointer (some ⟨gl,0,none⟩)∧a.tmps.getD 30 undef= .int .i64 N∧
  ∃(i:Nat) (v:Value),a.tmps.getD 31 undef= .int .i64 i∧i≤N∧W.heap[gl]? =some (.cells (lkCells ga tail v) 274 (0,0))∧W.ownsRow (gl+1) 134 4 v i ((first0 i).flatMap decSp)∧ArAt W ga ha σ∧Below gl w2 W∧gl+1≤W.heap.size
theorem new_lk (ga ha:Nat)(σ σ1:Ar)(w:World)(H:ArAt w ga ha σ)(hh:ha<w.heap.size)(n:Nat)(n1:1≤n)(n2:n≤32)(next:Int)(x1:1≤next)(x2:next≤4096)
 (ht:σ.take ((n:Int)+2)=((next,0),σ1)) (ho:σ1.ops≤1000000):
 Calls Tryz.prog 100 #[.pointer (some ⟨ga,0,none⟩),.int .i64 (n:Int)] w fun e w'=>∃gl hs,e= .returned (.tuple #[.pointer (some ⟨gl,0,none⟩),.int .i64 0])∧LkAt w' gl ga ha hs ⟨next⟩ (σ1.op 2 next true ((n:Int)+1)) (first0 n)∧w.heap.size≤gl∧w.heap.size≤hs∧Mod [ga,ha] w w':=by
 have HT:=take_any ga ha σ w H ((n:Int)+2);rw[ht]at HT;replace HT:=Lib.hid HT;have hga:=H.lt;have i1:(1:Int)≤(n:Int):=by omega
 have i2:(n:Int)≤32:=by omega
 have HO:=Lib.hid ho;clear H ht ho;go_enter Tryz.func100,Tryz.ntmps100;go_wp2_with fail;refine HT.out.mono ?_;rintro e w2 ⟨rfl,h2,hm2⟩;have hz2:=hm2.size;have hb0:=below_new w2 (.cells #[.pointer (some ⟨ga,0,none⟩),.int .i64 next,.slice none 0 0] 274);have HK0:=Lib.hid (blk_new w2 (.cells #[.pointer (some ⟨ga,0,none⟩),.int .i64 next,.slice none 0 0] 274));have HA0:=Lib.hid (h2.step hb0);have hz0:w2.heap.size+1≤(w2.alloc (.cells #[.pointer (some ⟨ga,0,none⟩),.int .i64 next,.slice none 0 0] 274)).heap.size:=by simp
 have HB0:=Lib.hid hb0;have HM:=Lib.hid hm2;clear hb0 h2 hm2 HT;go_wp2_with fail;generalize w2.alloc (.cells #[.pointer (some ⟨ga,0,none⟩),.int .i64 next,.slice none 0 0] 274)=W0 at*;generalize hgl:w2.heap.size=gl at*;refine wp_loop (NwJ n ga ha gl next σ1 w2) (fun a' _=>n-(intOf (a'.tmps.getD 31 undef)).toNat) ?_ ?_
 ·exact⟨rfl,rfl,rfl,rfl,rfl,rfl,rfl,0,.slice none 0 0,rfl,Nat.zero_le _,HK0.out,World.ownsRow_nil _ _ _ _,HA0.out,HB0.out,hz0⟩
 ·clear HK0 HA0 HB0 hz0
  rintro a' W ⟨hsz,hdf,s0,s1,s6,s8,s30,i,v,s31,hi,hbk,hown,hat,hb,hz⟩;obtain⟨u,rfl,hu⟩:=frame53 hsz hdf;rw[hu]at s0 s1 s6 s8 s30 s31;simp only[s0,s1,s6,s8,s30,s31];clear hsz hdf s0 s1 s6 s8 s30 s31 hu;by_cases hlt:i<n
  ·obtain⟨A,c,rfl,_⟩:=own_slice hown
   have c2:=blk_cell hbk 2 (by simp[lkCells]);have f2:=blk_free hbk 2;simp only[lkCells,List.getElem_toArray,List.getElem_cons_zero,List.getElem_cons_succ]at c2;have HBk:=Lib.hid hbk;have HAt:=Lib.hid hat;have HB:=Lib.hid hb;have e1:IntKind.i64.wrap ((i:Int)+1)=(i:Int)+1:=IntWalk.i64_in _ (by omega);clear hbk hat hb;go_wp2_with(at_builtin;refine wpList_append1 (.tmp 38) (.tmp 42) 173 134 _ 4 32 rfl rfl Tryz.underlying173 infoSp rfl (by decide) (gl+1) _ _ _ _ _ _ _ _ hown rfl rfl ?cg rfl ?d1 ?d2 ?d3 ?d4 ?ck;case' ck=>intro v' w3 hown3 hb3 _;have q6:=(hb3.cell (p:=⟨gl,2,none⟩) (Nat.lt_succ_self gl)).trans c2;have r6:=(hb3.frozen (p:=⟨gl,2,none⟩) (Nat.lt_succ_self gl)).trans f2;obtain⟨A3,c3,rfl,_,_,_⟩:=own_slice hown3)
   case cg=>first|rfl|simp
   case d1=>simp[Value.oneCell']
   case d2=>simp only[maxLen];omega
   case d3=>omega
   try(case d4=>exact hz)
   have hu:Upd (gl+1) [gl] W (w3.setCell ⟨gl,2,none⟩ (.slice A3 (i+1) c3)):=(Upd.of_below hb3).setCell (.inl (by simp)) _;have hbk2:=blk_set ((hb3.block gl (Nat.lt_succ_self gl)).trans HBk.out) 2 (.slice A3 (i+1) c3)
   have hown4:(w3.setCell ⟨gl,2,none⟩ (.slice A3 (i+1) c3)).ownsRow (gl+1) 134 4 (.slice A3 (i+1) c3) (i+1) ((first0 (i+1)).flatMap decSp):=by
    have:=ownsRow_setCell_below hown3 (a:=⟨gl,2,none⟩) (Nat.lt_succ_self gl) (.slice A3 (i+1) c3);rw[first0_succ,List.flatMap_append];simpa[decSp]using this
   exact⟨⟨rfl,rfl,rfl,rfl,rfl,rfl,rfl,i+1,_,rfl,hlt,hbk2,hown4,HAt.out.upd hu (by omega) (by omega) (by simp;omega) (by simp;omega),HB.out.trans (hu.below (by omega) (by simp)),Nat.le_trans hz hu.size⟩,by simp[intOf];omega⟩
  ·obtain rfl:i=n:=by omega
   rcases hown.2 with⟨_,h0⟩|⟨g,cc,cur,rfl,hg,hgb,_,_,_,htk⟩
   ·omega
   ·have hK:LkAt W gl ga ha g ⟨next⟩ σ1 (first0 i):=by
     refine⟨hat,⟨cur,hgb,by rw[first0_len];exact htk⟩,by rw[first0_len];exact n2,⟨cc,by rw[first0_len];exact hbk⟩,by omega,by omega,by omega,by omega,by omega⟩
    have HK:=Lib.hid hK;have HB:=Lib.hid hb;have e1:IntKind.i64.wrap ((i:Int)+1)=(i:Int)+1:=IntWalk.i64_in _ (by omega);clear hown hat hbk hb hgb htk hK;go_wp2_with fail;refine(store_any ga ha σ1 _ HK.out.1 HO.out next ((i:Int)+1)).mono ?_;rintro e w5 ⟨rfl,h5,hm5⟩;have hK5:=Lib.hid (HK.out.arena h5 hm5);have hm6:Mod [ga,ha] w w5:=(HM.out.trans (Mod.of_below (by rw[hgl];exact HB.out))).trans hm5;clear h5 hm5;go_wp2_with fail;go_ret2;exact⟨gl,g,rfl,hK5.out,by omega,by omega,hm6⟩
end Go.Proofs.YtfmiioddhpkdkaaGreat.Cl
namespace Go.Proofs.YtfmiioddhpkdkaaGreat.Cl
open Go.RowKit Ara Lok
theorem Inv.num {P:Par}{σ:Ar}{sp:List Sp}{z:Int}{q:List Int}(h:Inv P σ sp z q)(hl:sp.length≤32)(ho:σ.ops≤1000000)(hn:P.tail≤4096):Num P σ sp:=by
 refine⟨⟨h.t1,hn⟩,fun k hk=> ?_,ho,?_⟩
 ·have h1:=h.ar (k:Int) (by omega) (by omega)
  have h2:=h.br (k:Int);rw[spOf_in hk]at h1 h2;omega
 ·have:=h.t1
  have:=h.t2;omega
structure OkP (P:Par)(σ:Ar)(sp:List Sp)(n m:Nat):Prop where
 inv:∃z q,Inv P σ sp z q
 ops:σ.ops≤m+1
 nx:P.tail≤4096
 len:sp.length=n
 small:n≤32
section
variable {P:Par}{σ:Ar}{sp:List Sp}{n m:Nat}(h:OkP P σ sp n m)
include h
theorem OkP.act (kd i:Int):OkP P (doP P σ sp kd i).2.1 (doP P σ sp kd i).2.2 n (m+1):=by
 obtain⟨z,q,hi⟩:=h.inv;obtain⟨z',q',hi'⟩:=do_inv hi kd i;exact⟨⟨z',q',hi'⟩,by have:=do_ops P σ sp kd i;have:=h.ops;omega,h.nx,(do_len P σ sp kd i).trans h.len,h.small⟩
theorem OkP.num (hm:m≤100000):Num P σ sp:=by
 obtain⟨z,q,hi⟩:=h.inv;exact hi.num (by have:=h.len;have:=h.small;omega) (by have:=h.ops;omega) h.nx
end
end Go.Proofs.YtfmiioddhpkdkaaGreat.Cl
namespace Go.Proofs.YtfmiioddhpkdkaaGreat
open Go.RowKit Ara Lok
structure Zr (σ:Ar)(a m:Nat):Prop where
 hl:σ.t≤σ.ws.length
 a1:1≤a
 at_:a+m≤σ.t+1
 z:∀q:Int,(a:Int)≤q→q<(a:Int)+m→σ.get q=0
theorem Zr.has {σ:Ar}{a m:Nat}(h:Zr σ a m){q:Int}(h1:(a:Int)≤q)(h2:q<(a:Int)+m):σ.has q=true:=by
 have:=h.a1;have:=h.at_;simp[Ar.has];omega
namespace Ta
theorem inv_st {σ:Ar}{a:Nat}(h:Zr σ a 1)(most:Int)(m1:1≤most)(m2:most≤1024)(n:Nat):Inv ⟨a,most⟩ σ (zeroS n):=by
 have hs:=zero_spot n;have hp:∀i,(spOf (zeroS n) i).pc=0:=fun i=>by rw[hs];rfl
 have ha:∀i,(spOf (zeroS n) i).a=0:=fun i=>by rw[hs];rfl
 have hb:∀i,(spOf (zeroS n) i).b=0:=fun i=>by rw[hs];rfl
 exact {hl:=h.hl,hw:=h.has (q:=(a:Int)) (Int.le_refl _) (by omega),m1:=m1,m2:=m2,pcs:=fun i=> .inl (hp i),ar:=fun i=>by rw[ha];omega,br:=fun i=>by rw[hb];omega,w1:=fun i e=>by rw[hp]at e;omega,w2:=fun i e=>by rw[hp]at e;omega,hold:=fun i e=>by unfold holds at e;rw[hp]at e;omega,free:=fun _=>h.z (a:Int) (Int.le_refl _) (by omega)}
theorem ok_st {σ:Ar}{a:Nat}(h:Zr σ a 1)(most:Int)(m1:1≤most)(m2:most≤1024)(n m:Nat)(ho:σ.ops≤m+1):OkP ⟨a,most⟩ σ (zeroS n) n m:=⟨inv_st h most m1 m2 n,ho,by simp[zeroS]⟩
end Ta
namespace Tk
theorem inv_st {σ:Ar}{a:Nat}(h:Zr σ a 2)(n:Nat):Inv ⟨a⟩ σ (Ta.zeroS n) 0 0:=by
 have hs:=zero_spot n
 have hq:∀i,¬inq (spOf (List.replicate n sp0) i):=by
  intro i;rw[hs];unfold inq sp0;simp
 have hz:=h.z;have h1:=h.a1;have h2:=h.at_;refine {p1:=Int.le_refl _,p2:=by show(1:Int)≤32;decide,n1:=by show(1:Int)≤(a:Int);omega,le:=Nat.le_refl _,hl:=h.hl,n2:=by show(a:Int)+1≤(σ.t:Int);omega,gT:=hz (a:Int) (Int.le_refl _) (by omega),srv:= ?_,low:=fun x x0 x1=> ?_,pcs:=fun i=> ?_,tick:=fun i hi=>absurd hi (hq i),hold:=fun i hi=>absurd (Or.inr hi) (hq i),inj:=fun i j hi=>absurd hi (hq i),all:=fun t t0 t1=> ?_,rng:=fun i=> ?_}
 ·rw[place_eq];exact hz ((a:Int)+1) (by omega) (by omega)
 ·have x1':x<1:=x1
  have:σ.get ((a:Int)+1+x)=0:=hz _ (by omega) (by omega);show σ.get ((a:Int)+1+x)≤_;rw[this];exact Int.le_refl _
 ·left;show(spOf (List.replicate n sp0) i).pc=0;rw[hs];rfl
 ·omega
 ·have e:spOf (Ta.zeroS n) i=sp0:=hs i
  rw[e];exact⟨Int.le_refl _,Int.le_refl _⟩
theorem ok_st {σ:Ar}{a:Nat}(h:Zr σ a 2)(n m:Nat)(ho:σ.ops≤m+1)(ha:a≤4096):OkP ⟨a⟩ σ (Ta.zeroS n) n m:=⟨⟨0,0,inv_st h n,Nat.zero_le _⟩,ho,by show(a:Int)≤4096;omega,by simp[Ta.zeroS]⟩
end Tk
namespace Pt
theorem inv_st {σ:Ar}{a p:Nat}(h:Zr σ a (1+p))(p1:1≤p)(p2:p≤32)(n:Nat):Inv ⟨a,p⟩ (σ.op 2 (place ⟨a,p⟩ 0) true 1) (zeroS n) 0 0:=by
 have h1:=h.a1;have h2:=h.at_;obtain⟨x,x0,x1,e⟩:=place_in (P:=⟨a,p⟩) (by show(1:Int)≤(p:Int);omega) 0;simp only at x1 e;have hh:σ.has (place ⟨a,p⟩ 0)=true:=by rw[e];exact h.has (by omega) (by omega)
 have hg:=fun q=>get_op σ h.hl 2 (place ⟨a,p⟩ 0) 1 true q;simp only[hh,true_and]at hg;have hs:=zero_spot n
 have hq:∀i,¬inq (spOf (List.replicate n sp0) i):=by
  intro i;rw[hs];unfold inq sp0;simp
 refine {p1:=by show(1:Int)≤(p:Int);omega,p2:=by show(p:Int)≤32;omega,n1:=by show(1:Int)≤(a:Int);omega,le:=Nat.le_refl _,hl:= ?_,n2:= ?_,gT:= ?_,srv:= ?_,low:= ?_,pcs:=fun i=> ?_,tick:=fun i hi=>absurd hi (hq i),hold:=fun i hi=>absurd (Or.inr hi) (hq i),inj:=fun i j hi=>absurd hi (hq i),all:=fun t t0 t1=> ?_,rng:=fun i=> ?_}
 ·rw[op_t,op_len];exact h.hl
 ·rw[op_t];show(a:Int)+(p:Int)≤(σ.t:Int);omega
 ·rw[hg,if_neg (by rw[e];show¬(a:Int)=(a:Int)+1+x;omega)]
  exact h.z (a:Int) (Int.le_refl _) (by omega)
 ·rw[hg,if_pos (show place ⟨a,p⟩ ((0:Nat):Int)=place ⟨a,p⟩ 0 from rfl)];rfl
 ·intro y y0 y1
  have y1':y<(p:Int):=y1;rw[hg];split
  ·simp
  ·show σ.get ((a:Int)+1+y)≤_
   rw[h.z _ (by omega) (by omega)];decide
 ·left;show(spOf (List.replicate n sp0) i).pc=0;rw[hs];rfl
 ·omega
 ·have e:spOf (zeroS n) i=sp0:=hs i
  rw[e];exact⟨Int.le_refl _,Int.le_refl _⟩
theorem ok_st {σ:Ar}{a p:Nat}(h:Zr σ a (1+p))(p1:1≤p)(p2:p≤32)(n m:Nat)(ho:σ.ops≤m)(ha:a≤4096):OkP ⟨a,p⟩ (σ.op 2 (place ⟨a,p⟩ 0) true 1) (zeroS n) n m:=by
 refine⟨⟨0,0,inv_st h p1 p2 n,Nat.zero_le _⟩,?_,by show(a:Int)≤4096;omega,by simp[zeroS]⟩;rw[op_ops];split<;>omega
end Pt
namespace Mc
theorem inv_st {σ:Ar}{a n:Nat}(h:Zr σ a (1+2*n)):Inv ⟨a⟩ σ (zeroS n) []:=by
 have h1:=h.a1;have h2:=h.at_;have hp:∀i,(spOf (List.replicate n sp0) i).pc=0:=fun i=>by rw[zero_spot];rfl
 have hq:∀i,¬inq (spOf (List.replicate n sp0) i):=by
  intro i h;have:=hp i;unfold inq outs at h;omega
 refine {hl:=h.hl,t1:=by show(1:Int)≤(a:Int);omega,t2:= ?_,pcs:=fun i=> .inl (hp i),ar:=fun i=> ?_,mem:=fun i=>⟨fun h=>by simp at h,fun h=>absurd h (hq i)⟩,nd:=List.nodup_nil,first:=fun i h=>absurd (.inr (.inr h)) (hq i),gT:=h.z (a:Int) (Int.le_refl _) (by omega),ch:=trivial,hd:=fun i h=>by simp at h,p2:=fun i h=> ?_,p3:=fun i h=> ?_,p13:=fun i h=> ?_,pa:=fun i h=> ?_,p14:=fun i h=> ?_}
 ·show(a:Int)+2*((List.replicate n sp0).length:Int)≤_;rw[List.length_replicate];omega
 ·have e:spOf (zeroS n) i=sp0:=zero_spot n i
  rw[e];exact⟨Int.le_refl _,by show(0:Int)≤_;omega⟩
 all_goals(have h5:(spOf (zeroS n) i).pc=0:=hp i;exfalso;omega)
theorem ok_st {σ:Ar}{a n:Nat}(h:Zr σ a (1+2*n))(hn:n≤32)(m:Nat)(ho:σ.ops≤m+1)(ha:a≤4096):OkP ⟨a⟩ σ (zeroS n) n m:=⟨⟨_,inv_st h⟩,ho,by show(a:Int)≤4096;omega,by simp[zeroS],hn⟩
end Mc
namespace Cl
theorem inv_st {σ:Ar}{a n:Nat}(h:Zr σ a (n+2))(hn:n≤32):Inv ⟨a⟩ (σ.op 2 (a:Int) true ((n:Int)+1)) (first0 n) ((n:Int)+1) []:=by
 have h1:=h.a1;have h2:=h.at_;have hh:σ.has (a:Int)=true:=h.has (Int.le_refl _) (by omega);have hg:=fun q=>get_op σ h.hl 2 (a:Int) ((n:Int)+1) true q;simp only[hh,true_and]at hg;have hl:(first0 n).length=n:=by simp[first0]
 have hp:∀i,(spOf (first0 n) i).pc=0:=by
  intro i;rw[first0_spot];split<;>rfl
 have ha:∀i:Int,0≤i→i<n→(spOf (first0 n) i).a=i+1:=by
  intro i i0 i1;rw[first0_spot,if_pos ⟨i0,i1⟩]
 refine {hl:= ?_,t1:=by show(1:Int)≤(a:Int);omega,t2:= ?_,zr:= ?_,ar:= ?_,br:= ?_,pcs:=fun i=> .inl (hp i),mem:= ?_,nd:=List.nodup_nil,first:= ?_,inj:= ?_,nz:= ?_,ch:=trivial,gz:= ?_,g1:= ?_,gT:= ?_}
 ·rw[op_t,op_len];exact h.hl
 ·rw[op_t,hl];show(a:Int)+(n:Int)+1≤(σ.t:Int);omega
 ·rw[hl];omega
 ·intro i i0 i1;rw[hl]at i1⊢;rw[ha i i0 i1];omega
 ·intro i;rw[hl,first0_spot];split
  ·simp only;omega
  ·simp only[sp0];omega
 ·intro i
  refine⟨fun h=>by simp at h,fun h=> ?_⟩;have:=hp i;unfold inq inn at h;omega
 ·intro i h
  have:=hp i;unfold inn at h;omega
 ·intro i j i0 i1 j0 j1 e
  rw[hl]at i1 j1;rw[ha i i0 i1,ha j j0 j1]at e;omega
 ·intro i i0 i1
  rw[hl]at i1;rw[ha i i0 i1];omega
 ·rw[hg,if_neg (by simp[box];omega)]
  exact h.z _ (by show(a:Int)≤(a:Int)+((n:Int)+1);omega) (by show(a:Int)+((n:Int)+1)<_;omega)
 ·intro i h
  have:=hp i;unfold inq inn at h;omega
 ·rw[hg,if_pos rfl];rfl
theorem ok_st {σ:Ar}{a n:Nat}(h:Zr σ a (n+2))(hn:n≤32)(m:Nat)(ho:σ.ops≤m)(ha:a≤4096):OkP ⟨a⟩ (σ.op 2 (a:Int) true ((n:Int)+1)) (first0 n) n m:=by
 refine⟨⟨_,_,inv_st h hn⟩,?_,by show(a:Int)≤4096;omega,by simp[first0],hn⟩;rw[op_ops];split<;>omega
end Cl
end Go.Proofs.YtfmiioddhpkdkaaGreat
namespace Go.Proofs.YtfmiioddhpkdkaaGreat.Fl
open Go.RowKit Ara Lok
section
variable(gf:Nat)(kind:Int)(hk:kind≠0)(T:TypeId)(v r:Value)(F:FuncId)(w:World)
include hk
theorem Ask_gen (hc:∀a W,(callFunc F a).run Tryz.prog W= .ok (.enter F a) W)(hm:∀W,(method 456 T v "Ask").run Tryz.prog W= .ok (F,r) W)(H:FlB w gf kind T v)(i:Int)(b:Bool)(R:World→Prop)(HC:Calls Tryz.prog F #[r,.int .i64 i] w fun e w'=>e= .returned (.bool b)∧R w'):Calls Tryz.prog 171 #[.pointer (some ⟨gf,0,none⟩),.int .i64 i] w fun e w'=>e= .returned (.bool b)∧R w':=by
 have HM:=Lib.hid (made_yes gf kind T v w H hk);have c1:=blk_cell H 1 (by simp);simp only[List.getElem_toArray,List.getElem_cons_succ,List.getElem_cons_zero]at c1;replace HC:=Lib.hid HC;clear H;go_enter Tryz.func171,Tryz.ntmps171;go_wp2_with fail;refine(HM.out).mono ?_;rintro e wx ⟨rfl,hwx⟩;obtain rfl:=hwx.symm;go_wp2_with fail;refine HC.out.mono ?_;rintro e w2 ⟨rfl,h2⟩;replace h2:=Lib.hid h2;go_wp2_with fail;go_ret;exact⟨rfl,h2.out⟩
theorem Leave_gen (hc:∀a W,(callFunc F a).run Tryz.prog W= .ok (.enter F a) W)(hm:∀W,(method 456 T v "Leave").run Tryz.prog W= .ok (F,r) W)(H:FlB w gf kind T v)(i:Int)(b:Bool)(R:World→Prop)(HC:Calls Tryz.prog F #[r,.int .i64 i] w fun e w'=>e= .returned (.bool b)∧R w'):Calls Tryz.prog 178 #[.pointer (some ⟨gf,0,none⟩),.int .i64 i] w fun e w'=>e= .returned (.bool b)∧R w':=by
 have HM:=Lib.hid (made_yes gf kind T v w H hk);have c1:=blk_cell H 1 (by simp);simp only[List.getElem_toArray,List.getElem_cons_succ,List.getElem_cons_zero]at c1;replace HC:=Lib.hid HC;clear H;go_enter Tryz.func178,Tryz.ntmps178;go_wp2_with fail;refine(HM.out).mono ?_;rintro e wx ⟨rfl,hwx⟩;obtain rfl:=hwx.symm;go_wp2_with fail;refine HC.out.mono ?_;rintro e w2 ⟨rfl,h2⟩;replace h2:=Lib.hid h2;go_wp2_with fail;go_ret;exact⟨rfl,h2.out⟩
theorem Step_gen (hc:∀a W,(callFunc F a).run Tryz.prog W= .ok (.enter F a) W)(hm:∀W,(method 456 T v "Step").run Tryz.prog W= .ok (F,r) W)(H:FlB w gf kind T v)(i:Int)(b:Bool)(R:World→Prop)(HC:Calls Tryz.prog F #[r,.int .i64 i] w fun e w'=>e= .returned (.bool b)∧R w'):Calls Tryz.prog 175 #[.pointer (some ⟨gf,0,none⟩),.int .i64 i] w fun e w'=>e= .returned (.bool b)∧R w':=by
 have HM:=Lib.hid (made_yes gf kind T v w H hk);have c1:=blk_cell H 1 (by simp);simp only[List.getElem_toArray,List.getElem_cons_succ,List.getElem_cons_zero]at c1;replace HC:=Lib.hid HC;clear H;go_enter Tryz.func175,Tryz.ntmps175;go_wp2_with fail;refine(HM.out).mono ?_;rintro e wx ⟨rfl,hwx⟩;obtain rfl:=hwx.symm;go_wp2_with fail;refine HC.out.mono ?_;rintro e w2 ⟨rfl,h2⟩;replace h2:=Lib.hid h2;go_wp2_with fail;go_ret;exact⟨rfl,h2.out⟩
theorem Alone_gen (hc:∀a W,(callFunc F a).run Tryz.prog W= .ok (.enter F a) W)(hm:∀W,(method 456 T v "Alone").run Tryz.prog W= .ok (F,r) W)(H:FlB w gf kind T v)(i:Int)(b:Bool)(R:World→Prop)(HC:Calls Tryz.prog F #[r,.int .i64 i] w fun e w'=>e= .returned (.bool b)∧R w'):Calls Tryz.prog 177 #[.pointer (some ⟨gf,0,none⟩),.int .i64 i] w fun e w'=>e= .returned (.bool b)∧R w':=by
 have HM:=Lib.hid (made_yes gf kind T v w H hk);have c1:=blk_cell H 1 (by simp);simp only[List.getElem_toArray,List.getElem_cons_succ,List.getElem_cons_zero]at c1;replace HC:=Lib.hid HC;clear H;go_enter Tryz.func177,Tryz.ntmps177;go_wp2_with fail;refine(HM.out).mono ?_;rintro e wx ⟨rfl,hwx⟩;obtain rfl:=hwx.symm;go_wp2_with fail;refine HC.out.mono ?_;rintro e w2 ⟨rfl,h2⟩;replace h2:=Lib.hid h2;go_wp2_with fail;go_ret;exact⟨rfl,h2.out⟩
end
theorem c2_Ask (a:Array Value)(w:World):(callFunc 344 a).run Tryz.prog w= .ok (.enter 344 a) w:=by kernel_rfl
theorem m2_Ask (gl:Nat)(w:World):(method 456 226 (.pointer (some ⟨gl,0,none⟩)) "Ask").run Tryz.prog w= .ok (344,.pointer (some ⟨gl,0,none⟩)) w:=by kernel_rfl
theorem c2_Leave (a:Array Value)(w:World):(callFunc 345 a).run Tryz.prog w= .ok (.enter 345 a) w:=by kernel_rfl
theorem m2_Leave (gl:Nat)(w:World):(method 456 226 (.pointer (some ⟨gl,0,none⟩)) "Leave").run Tryz.prog w= .ok (345,.pointer (some ⟨gl,0,none⟩)) w:=by kernel_rfl
theorem c2_Step (a:Array Value)(w:World):(callFunc 348 a).run Tryz.prog w= .ok (.enter 348 a) w:=by kernel_rfl
theorem m2_Step (gl:Nat)(w:World):(method 456 226 (.pointer (some ⟨gl,0,none⟩)) "Step").run Tryz.prog w= .ok (348,.pointer (some ⟨gl,0,none⟩)) w:=by kernel_rfl
theorem c2_Alone (a:Array Value)(w:World):(callFunc 343 a).run Tryz.prog w= .ok (.enter 343 a) w:=by kernel_rfl
theorem m2_Alone (gl:Nat)(w:World):(method 456 226 (.pointer (some ⟨gl,0,none⟩)) "Alone").run Tryz.prog w= .ok (343,.pointer (some ⟨gl,0,none⟩)) w:=by kernel_rfl
theorem c3_Ask (a:Array Value)(w:World):(callFunc 356 a).run Tryz.prog w= .ok (.enter 356 a) w:=by kernel_rfl
theorem m3_Ask (gl:Nat)(w:World):(method 456 229 (.pointer (some ⟨gl,0,none⟩)) "Ask").run Tryz.prog w= .ok (356,.pointer (some ⟨gl,0,none⟩)) w:=by kernel_rfl
theorem c3_Leave (a:Array Value)(w:World):(callFunc 357 a).run Tryz.prog w= .ok (.enter 357 a) w:=by kernel_rfl
theorem m3_Leave (gl:Nat)(w:World):(method 456 229 (.pointer (some ⟨gl,0,none⟩)) "Leave").run Tryz.prog w= .ok (357,.pointer (some ⟨gl,0,none⟩)) w:=by kernel_rfl
theorem c3_Step (a:Array Value)(w:World):(callFunc 360 a).run Tryz.prog w= .ok (.enter 360 a) w:=by kernel_rfl
theorem m3_Step (gl:Nat)(w:World):(method 456 229 (.pointer (some ⟨gl,0,none⟩)) "Step").run Tryz.prog w= .ok (360,.pointer (some ⟨gl,0,none⟩)) w:=by kernel_rfl
theorem c3_Alone (a:Array Value)(w:World):(callFunc 355 a).run Tryz.prog w= .ok (.enter 355 a) w:=by kernel_rfl
theorem m3_Alone (gl:Nat)(w:World):(method 456 229 (.pointer (some ⟨gl,0,none⟩)) "Alone").run Tryz.prog w= .ok (355,.pointer (some ⟨gl,0,none⟩)) w:=by kernel_rfl
theorem c4_Ask (a:Array Value)(w:World):(callFunc 367 a).run Tryz.prog w= .ok (.enter 367 a) w:=by kernel_rfl
theorem m4_Ask (gl:Nat)(w:World):(method 456 232 (.pointer (some ⟨gl,0,none⟩)) "Ask").run Tryz.prog w= .ok (367,.pointer (some ⟨gl,0,none⟩)) w:=by kernel_rfl
theorem c4_Leave (a:Array Value)(w:World):(callFunc 368 a).run Tryz.prog w= .ok (.enter 368 a) w:=by kernel_rfl
theorem m4_Leave (gl:Nat)(w:World):(method 456 232 (.pointer (some ⟨gl,0,none⟩)) "Leave").run Tryz.prog w= .ok (368,.pointer (some ⟨gl,0,none⟩)) w:=by kernel_rfl
theorem c4_Step (a:Array Value)(w:World):(callFunc 371 a).run Tryz.prog w= .ok (.enter 371 a) w:=by kernel_rfl
theorem m4_Step (gl:Nat)(w:World):(method 456 232 (.pointer (some ⟨gl,0,none⟩)) "Step").run Tryz.prog w= .ok (371,.pointer (some ⟨gl,0,none⟩)) w:=by kernel_rfl
theorem c4_Alone (a:Array Value)(w:World):(callFunc 366 a).run Tryz.prog w= .ok (.enter 366 a) w:=by kernel_rfl
theorem m4_Alone (gl:Nat)(w:World):(method 456 232 (.pointer (some ⟨gl,0,none⟩)) "Alone").run Tryz.prog w= .ok (366,.pointer (some ⟨gl,0,none⟩)) w:=by kernel_rfl
theorem c5_Ask (a:Array Value)(w:World):(callFunc 380 a).run Tryz.prog w= .ok (.enter 380 a) w:=by kernel_rfl
theorem m5_Ask (gl:Nat)(w:World):(method 456 235 (.pointer (some ⟨gl,0,none⟩)) "Ask").run Tryz.prog w= .ok (380,.pointer (some ⟨gl,0,none⟩)) w:=by kernel_rfl
theorem c5_Leave (a:Array Value)(w:World):(callFunc 381 a).run Tryz.prog w= .ok (.enter 381 a) w:=by kernel_rfl
theorem m5_Leave (gl:Nat)(w:World):(method 456 235 (.pointer (some ⟨gl,0,none⟩)) "Leave").run Tryz.prog w= .ok (381,.pointer (some ⟨gl,0,none⟩)) w:=by kernel_rfl
theorem c5_Step (a:Array Value)(w:World):(callFunc 384 a).run Tryz.prog w= .ok (.enter 384 a) w:=by kernel_rfl
theorem m5_Step (gl:Nat)(w:World):(method 456 235 (.pointer (some ⟨gl,0,none⟩)) "Step").run Tryz.prog w= .ok (384,.pointer (some ⟨gl,0,none⟩)) w:=by kernel_rfl
theorem c5_Alone (a:Array Value)(w:World):(callFunc 379 a).run Tryz.prog w= .ok (.enter 379 a) w:=by kernel_rfl
theorem m5_Alone (gl:Nat)(w:World):(method 456 235 (.pointer (some ⟨gl,0,none⟩)) "Alone").run Tryz.prog w= .ok (379,.pointer (some ⟨gl,0,none⟩)) w:=by kernel_rfl
theorem c1_Ask (a:Array Value)(w:World):(callFunc 336 a).run Tryz.prog w= .ok (.enter 336 a) w:=by kernel_rfl
theorem m1_Ask (gl:Nat)(w:World):(method 456 225 (.agg #[.pointer (some ⟨gl,0,none⟩)]) "Ask").run Tryz.prog w= .ok (336,.pointer (some ⟨gl,0,none⟩)) w:=by kernel_rfl
theorem c1_Leave (a:Array Value)(w:World):(callFunc 337 a).run Tryz.prog w= .ok (.enter 337 a) w:=by kernel_rfl
theorem m1_Leave (gl:Nat)(w:World):(method 456 225 (.agg #[.pointer (some ⟨gl,0,none⟩)]) "Leave").run Tryz.prog w= .ok (337,.pointer (some ⟨gl,0,none⟩)) w:=by kernel_rfl
theorem c1_Step (a:Array Value)(w:World):(callFunc 340 a).run Tryz.prog w= .ok (.enter 340 a) w:=by kernel_rfl
theorem m1_Step (gl:Nat)(w:World):(method 456 225 (.agg #[.pointer (some ⟨gl,0,none⟩)]) "Step").run Tryz.prog w= .ok (340,.pointer (some ⟨gl,0,none⟩)) w:=by kernel_rfl
theorem c1_Alone (a:Array Value)(w:World):(callFunc 342 a).run Tryz.prog w= .ok (.enter 342 a) w:=by kernel_rfl
theorem m1_Alone (gl:Nat)(w:World):(method 456 225 (.agg #[.pointer (some ⟨gl,0,none⟩)]) "Alone").run Tryz.prog w= .ok (342,.agg #[.pointer (some ⟨gl,0,none⟩)]) w:=by kernel_rfl
end Go.Proofs.YtfmiioddhpkdkaaGreat.Fl
namespace Go.Proofs.YtfmiioddhpkdkaaGreat.Fl
open Go.RowKit Ara Lok
inductive PK where
 |tas (P:Ta.Par)
 |tic (P:Tk.Par)
 |par (P:Pt.Par)
 |mcs (P:Mc.Par)
 |clh (P:Cl.Par)
def PK.num:PK→Int
 |.tas _=>1
 |.tic _=>2
 |.par _=>3
 |.mcs _=>4
 |.clh _=>5
def PK.ty:PK→TypeId
 |.tas _=>225
 |.tic _=>226
 |.par _=>229
 |.mcs _=>232
 |.clh _=>235
def PK.val (gl:Nat):PK→Value
 |.tas _=> .agg #[.pointer (some ⟨gl,0,none⟩)]
 |_=> .pointer (some ⟨gl,0,none⟩)
def doK:PK→Ar→List Sp→Int→Int→Bool×Ar×List Sp
 |.tas P=>Ta.doP P
 |.tic P=>Tk.doP P
 |.par P=>Pt.doP P
 |.mcs P=>Mc.doP P
 |.clh P=>Cl.doP P
def OkK:PK→Ar→List Sp→Nat→Nat→Prop
 |.tas P=>Ta.OkP P
 |.tic P=>Tk.OkP P
 |.par P=>Pt.OkP P
 |.mcs P=>Mc.OkP P
 |.clh P=>Cl.OkP P
theorem do_ops (p:PK)(σ:Ar)(sp:List Sp)(kd i:Int):(doK p σ sp kd i).2.1.ops≤σ.ops+1∧σ.ops≤(doK p σ sp kd i).2.1.ops:=by
 cases p with
 |tas P=>exact Ta.do_ops P σ sp kd i
 |tic P=>exact Tk.do_ops P σ sp kd i
 |par P=>exact Pt.do_ops P σ sp kd i
 |mcs P=>exact Mc.do_ops P σ sp kd i
 |clh P=>exact Cl.do_ops P σ sp kd i
theorem do_else (p:PK)(σ:Ar)(sp:List Sp)(kd i:Int)(h:kd<0∨3<kd):doK p σ sp kd i=(false,σ,sp):=by
 cases p with
 |tas P=>show Ta.doP P σ sp kd i=_;unfold Ta.doP;rw[if_neg (by omega),if_neg (by omega),if_neg (by omega),if_neg (by omega)]
 |tic P=>show Tk.doP P σ sp kd i=_;unfold Tk.doP;rw[if_neg (by omega),if_neg (by omega),if_neg (by omega),if_neg (by omega)]
 |par P=>show Pt.doP P σ sp kd i=_;unfold Pt.doP;rw[if_neg (by omega),if_neg (by omega),if_neg (by omega),if_neg (by omega)]
 |mcs P=>show Mc.doP P σ sp kd i=_;unfold Mc.doP;rw[if_neg (by omega),if_neg (by omega),if_neg (by omega),if_neg (by omega)]
 |clh P=>show Cl.doP P σ sp kd i=_;unfold Cl.doP;rw[if_neg (by omega),if_neg (by omega),if_neg (by omega),if_neg (by omega)]
section
variable {p:PK}{σ:Ar}{sp:List Sp}{n m:Nat}(h:OkK p σ sp n m)
include h
theorem OkK.act (kd i:Int):OkK p (doK p σ sp kd i).2.1 (doK p σ sp kd i).2.2 n (m+1):=by
 cases p with
 |tas P=>exact Ta.OkP.act h kd i
 |tic P=>exact Tk.OkP.act h kd i
 |par P=>exact Pt.OkP.act h kd i
 |mcs P=>exact Mc.OkP.act h kd i
 |clh P=>exact Cl.OkP.act h kd i
theorem OkK.len:sp.length=n:=by
 cases p with
 |tas P=>exact Ta.OkP.len h
 |tic P=>exact Tk.OkP.len h
 |par P=>exact Pt.OkP.len h
 |mcs P=>exact Mc.OkP.len h
 |clh P=>exact Cl.OkP.len h
end
def PK.At (p:PK)(W:World)(gl ga ha hs:Nat)(σ:Ar)(sp:List Sp):Prop:=
 match p with
 |.tas P=>Ta.LkAt W gl ga ha hs P σ sp
 |.tic P=>Tk.LkAt W gl ga ha hs P σ sp
 |.par P=>Pt.LkAt W gl ga ha hs P σ sp
 |.mcs P=>Mc.LkAt W gl ga ha hs P σ sp
 |.clh P=>Cl.LkAt W gl ga ha hs P σ sp
theorem PK.At.same {p:PK}{W W':World}{gl ga ha hs:Nat}{σ:Ar}{sp:List Sp}(k:p.At W gl ga ha hs σ sp)(hb:Below W.heap.size W W'):p.At W' gl ga ha hs σ sp:=by
 cases p with
 |tas P=>exact Ta.LkAt.same k hb
 |tic P=>exact Tk.LkAt.same k hb
 |par P=>exact Pt.LkAt.same k hb
 |mcs P=>exact Mc.LkAt.same k hb
 |clh P=>exact Cl.LkAt.same k hb
theorem PK.At.mod {p:PK}{S:List Nat}{W W':World}{gl ga ha hs:Nat}{σ:Ar}{sp:List Sp}(k:p.At W gl ga ha hs σ sp)(hm:Mod S W W')(h1:gl∉S)(h2:ga∉S)(h3:ha∉S)(h4:hs∉S):p.At W' gl ga ha hs σ sp:=by
 cases p with
 |tas P=>exact Ta.LkAt.mod k hm h1 h2 h3 h4
 |tic P=>exact Tk.LkAt.mod k hm h1 h2 h3 h4
 |par P=>exact Pt.LkAt.mod k hm h1 h2 h3 h4
 |mcs P=>exact Mc.LkAt.mod k hm h1 h2 h3 h4
 |clh P=>exact Cl.LkAt.mod k hm h1 h2 h3 h4
theorem PK.At.facts {p:PK}{W:World}{gl ga ha hs:Nat}{σ:Ar}{sp:List Sp}(k:p.At W gl ga ha hs σ sp):ArAt W ga ha σ∧SpAt W hs sp∧sp.length≤32∧gl<W.heap.size∧(gl≠ga∧gl≠ha∧gl≠hs∧hs≠ga∧hs≠ha):=by
 cases p with
 |tas P=>obtain⟨k1,k2,k3,⟨c,k4⟩,k5⟩:=k;exact⟨k1,k2,k3,lt_of_blk k4,k5⟩
 |tic P=>obtain⟨k1,k2,k3,⟨c,k4⟩,k5⟩:=k;exact⟨k1,k2,k3,lt_of_blk k4,k5⟩
 |par P=>obtain⟨k1,k2,k3,⟨c,k4⟩,k5⟩:=k;exact⟨k1,k2,k3,lt_of_blk k4,k5⟩
 |mcs P=>obtain⟨k1,k2,k3,⟨c,k4⟩,k5⟩:=k;exact⟨k1,k2,k3,lt_of_blk k4,k5⟩
 |clh P=>obtain⟨k1,k2,k3,⟨c,k4⟩,k5⟩:=k;exact⟨k1,k2,k3,lt_of_blk k4,k5⟩
structure FLAt (W:World)(gf gl ga ha hs:Nat)(p:PK)(σ:Ar)(sp:List Sp):Prop where
 fb:FlB W gf p.num p.ty (p.val gl)
 at_:p.At W gl ga ha hs σ sp
 n1:gf≠ga
 n2:gf≠ha
 n3:gf≠hs
theorem FLAt.same {W W':World}{gf gl ga ha hs:Nat}{p:PK}{σ:Ar}{sp:List Sp}(k:FLAt W gf gl ga ha hs p σ sp)(hb:Below W.heap.size W W'):FLAt W' gf gl ga ha hs p σ sp:=⟨FlB.same k.fb hb,k.at_.same hb,k.n1,k.n2,k.n3⟩
theorem FLAt.mod {S:List Nat}{W W':World}{gf gl ga ha hs:Nat}{p:PK}{σ:Ar}{sp:List Sp}(k:FLAt W gf gl ga ha hs p σ sp)(hm:Mod S W W')(h0:gf∉S)(h1:gl∉S)(h2:ga∉S)(h3:ha∉S)(h4:hs∉S):FLAt W' gf gl ga ha hs p σ sp:=⟨FlB.mod k.fb hm h0,k.at_.mod hm h1 h2 h3 h4,k.n1,k.n2,k.n3⟩
theorem FLAt.acts {W W':World}{gf gl ga ha hs:Nat}{p:PK}{σ σ':Ar}{sp sp':List Sp}(k:FLAt W gf gl ga ha hs p σ sp)(h:p.At W' gl ga ha hs σ' sp')(hm:Mod [ga,ha,hs] W W'):FLAt W' gf gl ga ha hs p σ' sp':=by
 have h1:=k.n1;have h2:=k.n2;have h3:=k.n3;exact⟨FlB.mod k.fb hm (by simp;omega),h,h1,h2,h3⟩
theorem FLAt.blocks {W:World}{gf gl ga ha hs:Nat}{p:PK}{σ:Ar}{sp:List Sp}(k:FLAt W gf gl ga ha hs p σ sp):gf<W.heap.size∧gl<W.heap.size∧ga<W.heap.size∧hs<W.heap.size:=
 ⟨lt_of_blk k.fb,k.at_.facts.2.2.2.1,k.at_.facts.1.lt,k.at_.facts.2.1.lt⟩
section
variable {gf gl ga ha hs:Nat}{p:PK}{σ:Ar}{sp:List Sp}{w:World}(K:FLAt w gf gl ga ha hs p σ sp)
include K
theorem Ask_flat (n m:Nat)(ho:OkK p σ sp n m)(hm:m≤100000)(i:Int):Calls Tryz.prog 171 #[.pointer (some ⟨gf,0,none⟩),.int .i64 i] w fun e w'=>e= .returned (.bool (doK p σ sp 1 i).1)∧FLAt w' gf gl ga ha hs p (doK p σ sp 1 i).2.1 (doK p σ sp 1 i).2.2∧Mod [ga,ha,hs] w w':=by
 suffices h:Calls Tryz.prog 171 #[.pointer (some ⟨gf,0,none⟩),.int .i64 i] w fun e w'=>e= .returned (.bool (doK p σ sp 1 i).1)∧(p.At w' gl ga ha hs (doK p σ sp 1 i).2.1 (doK p σ sp 1 i).2.2∧Mod [ga,ha,hs] w w') from
  h.mono fun e w' ⟨h1,h2,h3⟩=>⟨h1,K.acts h2 h3,h3⟩
 cases p with
 |tas P=>exact Ask_gen gf 1 (by decide) _ _ _ _ w c1_Ask (m1_Ask gl) K.fb i _ _ ((Ta.ask_lk gl ga ha hs P σ sp w K.at_ i).mono fun e w' ⟨a,b,c⟩=>⟨a,b,c.sub (by simp)⟩)
 |tic P=>exact Ask_gen gf 2 (by decide) _ _ _ _ w c2_Ask (m2_Ask gl) K.fb i _ _ ((Tk.Ask_lk gl ga ha hs P σ sp w K.at_ i).mono fun e w' ⟨a,b,c⟩=>⟨a,b,c.sub (by simp)⟩)
 |par P=>exact Ask_gen gf 3 (by decide) _ _ _ _ w c3_Ask (m3_Ask gl) K.fb i _ _ ((Pt.Ask_lk gl ga ha hs P σ sp w K.at_ i).mono fun e w' ⟨a,b,c⟩=>⟨a,b,c.sub (by simp)⟩)
 |mcs P=>exact Ask_gen gf 4 (by decide) _ _ _ _ w c4_Ask (m4_Ask gl) K.fb i _ _ ((Mc.Ask_lk gl ga ha hs P σ sp w K.at_ i).mono fun e w' ⟨a,b,c⟩=>⟨a,b,c.sub (by simp)⟩)
 |clh P=>exact Ask_gen gf 5 (by decide) _ _ _ _ w c5_Ask (m5_Ask gl) K.fb i _ _ ((Cl.Ask_lk gl ga ha hs P σ sp w K.at_ i).mono fun e w' ⟨a,b,c⟩=>⟨a,b,c.sub (by simp)⟩)
theorem Leave_flat (n m:Nat)(ho:OkK p σ sp n m)(hm:m≤100000)(i:Int):Calls Tryz.prog 178 #[.pointer (some ⟨gf,0,none⟩),.int .i64 i] w fun e w'=>e= .returned (.bool (doK p σ sp 2 i).1)∧FLAt w' gf gl ga ha hs p (doK p σ sp 2 i).2.1 (doK p σ sp 2 i).2.2∧Mod [ga,ha,hs] w w':=by
 suffices h:Calls Tryz.prog 178 #[.pointer (some ⟨gf,0,none⟩),.int .i64 i] w fun e w'=>e= .returned (.bool (doK p σ sp 2 i).1)∧(p.At w' gl ga ha hs (doK p σ sp 2 i).2.1 (doK p σ sp 2 i).2.2∧Mod [ga,ha,hs] w w') from
  h.mono fun e w' ⟨h1,h2,h3⟩=>⟨h1,K.acts h2 h3,h3⟩
 cases p with
 |tas P=>exact Leave_gen gf 1 (by decide) _ _ _ _ w c1_Leave (m1_Leave gl) K.fb i _ _ ((Ta.leave_lk gl ga ha hs P σ sp w K.at_ i).mono fun e w' ⟨a,b,c⟩=>⟨a,b,c.sub (by simp)⟩)
 |tic P=>exact Leave_gen gf 2 (by decide) _ _ _ _ w c2_Leave (m2_Leave gl) K.fb i _ _ ((Tk.Leave_lk gl ga ha hs P σ sp w K.at_ i).mono fun e w' ⟨a,b,c⟩=>⟨a,b,c.sub (by simp)⟩)
 |par P=>exact Leave_gen gf 3 (by decide) _ _ _ _ w c3_Leave (m3_Leave gl) K.fb i _ _ ((Pt.Leave_lk gl ga ha hs P σ sp w K.at_ i).mono fun e w' ⟨a,b,c⟩=>⟨a,b,c.sub (by simp)⟩)
 |mcs P=>exact Leave_gen gf 4 (by decide) _ _ _ _ w c4_Leave (m4_Leave gl) K.fb i _ _ ((Mc.Leave_lk gl ga ha hs P σ sp w K.at_ i).mono fun e w' ⟨a,b,c⟩=>⟨a,b,c.sub (by simp)⟩)
 |clh P=>exact Leave_gen gf 5 (by decide) _ _ _ _ w c5_Leave (m5_Leave gl) K.fb i _ _ ((Cl.Leave_lk gl ga ha hs P σ sp w K.at_ i).mono fun e w' ⟨a,b,c⟩=>⟨a,b,c.sub (by simp)⟩)
theorem Step_flat (n m:Nat)(ho:OkK p σ sp n m)(hm:m≤100000)(i:Int):Calls Tryz.prog 175 #[.pointer (some ⟨gf,0,none⟩),.int .i64 i] w fun e w'=>e= .returned (.bool (doK p σ sp 0 i).1)∧FLAt w' gf gl ga ha hs p (doK p σ sp 0 i).2.1 (doK p σ sp 0 i).2.2∧Mod [ga,ha,hs] w w':=by
 suffices h:Calls Tryz.prog 175 #[.pointer (some ⟨gf,0,none⟩),.int .i64 i] w fun e w'=>e= .returned (.bool (doK p σ sp 0 i).1)∧(p.At w' gl ga ha hs (doK p σ sp 0 i).2.1 (doK p σ sp 0 i).2.2∧Mod [ga,ha,hs] w w') from
  h.mono fun e w' ⟨h1,h2,h3⟩=>⟨h1,K.acts h2 h3,h3⟩
 cases p with
 |tas P=>exact Step_gen gf 1 (by decide) _ _ _ _ w c1_Step (m1_Step gl) K.fb i _ _ (Ta.step_lk gl ga ha hs P σ sp w K.at_ (Ta.OkP.inv ho) (by have:=Ta.OkP.ops ho;omega) i)
 |tic P=>exact Step_gen gf 2 (by decide) _ _ _ _ w c2_Step (m2_Step gl) K.fb i _ _ (Tk.step_lk gl ga ha hs P σ sp w K.at_ (Tk.OkP.num ho hm) i)
 |par P=>exact Step_gen gf 3 (by decide) _ _ _ _ w c3_Step (m3_Step gl) K.fb i _ _ (Pt.step_lk gl ga ha hs P σ sp w K.at_ (Pt.OkP.num ho hm) i)
 |mcs P=>exact Step_gen gf 4 (by decide) _ _ _ _ w c4_Step (m4_Step gl) K.fb i _ _ (Mc.step_lk gl ga ha hs P σ sp w K.at_ (Mc.OkP.num ho hm) i)
 |clh P=>exact Step_gen gf 5 (by decide) _ _ _ _ w c5_Step (m5_Step gl) K.fb i _ _ (Cl.step_lk gl ga ha hs P σ sp w K.at_ (Cl.OkP.num ho hm) i)
theorem Alone_flat (n m:Nat)(ho:OkK p σ sp n m)(hm:m≤100000)(i:Int):Calls Tryz.prog 177 #[.pointer (some ⟨gf,0,none⟩),.int .i64 i] w fun e w'=>e= .returned (.bool (doK p σ sp 3 i).1)∧FLAt w' gf gl ga ha hs p (doK p σ sp 3 i).2.1 (doK p σ sp 3 i).2.2∧Mod [ga,ha,hs] w w':=by
 suffices h:Calls Tryz.prog 177 #[.pointer (some ⟨gf,0,none⟩),.int .i64 i] w fun e w'=>e= .returned (.bool (doK p σ sp 3 i).1)∧(p.At w' gl ga ha hs (doK p σ sp 3 i).2.1 (doK p σ sp 3 i).2.2∧Mod [ga,ha,hs] w w') from
  h.mono fun e w' ⟨h1,h2,h3⟩=>⟨h1,K.acts h2 h3,h3⟩
 cases p with
 |tas P=>exact Alone_gen gf 1 (by decide) _ _ _ _ w c1_Alone (m1_Alone gl) K.fb i _ _ ((lone_alone gl ga ha hs P σ sp w K.at_ i _ rfl).mono fun e w' ⟨a,b⟩=>⟨a,Ta.LkAt.same K.at_ b,Mod.of_below b⟩)
 |tic P=>exact Alone_gen gf 2 (by decide) _ _ _ _ w c2_Alone (m2_Alone gl) K.fb i _ _ ((Tk.alone_lk gl ga ha hs P σ sp w K.at_ (Tk.OkP.num ho hm) i).mono fun e w' ⟨a,b,c⟩=>⟨a,b,c.sub (by simp)⟩)
 |par P=>exact Alone_gen gf 3 (by decide) _ _ _ _ w c3_Alone (m3_Alone gl) K.fb i _ _ ((Pt.alone_lk gl ga ha hs P σ sp w K.at_ (Pt.OkP.num ho hm).2.1 (Pt.OkP.num ho hm).2.2.1 i).mono fun e w' ⟨a,b,c⟩=>⟨a,b,c.sub (by simp)⟩)
 |mcs P=>exact Alone_gen gf 4 (by decide) _ _ _ _ w c4_Alone (m4_Alone gl) K.fb i _ _ ((Mc.alone_lk gl ga ha hs P σ sp w K.at_ (Mc.OkP.num ho hm) i).mono fun e w' ⟨a,b,c⟩=>⟨a,b,c.sub (by simp)⟩)
 |clh P=>exact Alone_gen gf 5 (by decide) _ _ _ _ w c5_Alone (m5_Alone gl) K.fb i _ _ ((Cl.alone_lk gl ga ha hs P σ sp w K.at_ (Cl.OkP.num ho hm) i).mono fun e w' ⟨a,b,c⟩=>⟨a,b,c.sub (by simp)⟩)
end
end Go.Proofs.YtfmiioddhpkdkaaGreat.Fl
namespace Go.Proofs.YtfmiioddhpkdkaaGreat.Fl
open Go.RowKit Ara Lok
theorem new_k1 (ga ha:Nat)(σ σ1:Ar)(w:World)(H:ArAt w ga ha σ)(hh:ha<w.heap.size)(n:Nat)(n1:1≤n)(n2:n≤32)(par:Int)(m1:1≤par)(m2:par≤1024)(next:Int)(ht:σ.take 1=((next,0),σ1)):
 Calls Tryz.prog 75 #[.pointer (some ⟨ga,0,none⟩),.int .i64 1,.int .i64 (n:Int),.int .i64 par] w fun e w'=>∃gf gl hs,e= .returned (.tuple #[.pointer (some ⟨gf,0,none⟩),.int .i64 0])∧FlB w' gf 1 225 (.agg #[.pointer (some ⟨gl,0,none⟩)])∧Ta.LkAt w' gl ga ha hs ⟨next,par⟩ σ1 (Ta.zeroS n)∧(w.heap.size≤gf∧w.heap.size≤gl∧w.heap.size≤hs∧gf≠hs)∧Mod [ga,ha] w w':=by
 have HN:=Lib.hid (Ta.new_lk ga ha σ σ1 w H hh n n1 n2 par m1 m2 next ht);clear H ht;go_enter Tryz.func75,Tryz.ntmps75;go_wp2_with fail;refine HN.out.mono ?_;rintro e w2 ⟨gl,hs,rfl,hk,hgl,hhs,hm⟩;have hbn:=below_new w2 (.cells #[.int .i64 1,.iface 225 (.agg #[.pointer (some ⟨gl,0,none⟩)])] 239);have HB:=Lib.hid (blk_new w2 (.cells #[.int .i64 1,.iface 225 (.agg #[.pointer (some ⟨gl,0,none⟩)])] 239));have hz:=hm.size;have hlt:=hk.2.1.lt;have HK:=Lib.hid (hk.same hbn);have hmm:=hm.alloc (.cells #[.int .i64 1,.iface 225 (.agg #[.pointer (some ⟨gl,0,none⟩)])] 239);clear hk hm hbn;go_wp2_with fail;go_ret2;exact⟨w2.heap.size,gl,hs,rfl,HB.out,HK.out,by omega,hmm⟩
theorem new_k2 (ga ha:Nat)(σ σ1:Ar)(w:World)(H:ArAt w ga ha σ)(hh:ha<w.heap.size)(n:Nat)(n1:1≤n)(n2:n≤32)(par:Int)(next:Int)(ht:σ.take 2=((next,0),σ1)):
 Calls Tryz.prog 75 #[.pointer (some ⟨ga,0,none⟩),.int .i64 2,.int .i64 (n:Int),.int .i64 par] w fun e w'=>∃gf gl hs,e= .returned (.tuple #[.pointer (some ⟨gf,0,none⟩),.int .i64 0])∧FlB w' gf 2 226 (.pointer (some ⟨gl,0,none⟩))∧Tk.LkAt w' gl ga ha hs ⟨next⟩ σ1 (Ta.zeroS n)∧(w.heap.size≤gf∧w.heap.size≤gl∧w.heap.size≤hs∧gf≠hs)∧Mod [ga,ha] w w':=by
 have HN:=Lib.hid (Tk.new_lk ga ha σ σ1 w H hh n n1 n2 next ht);clear H ht;go_enter Tryz.func75,Tryz.ntmps75;go_wp2_with fail;refine HN.out.mono ?_;rintro e w2 ⟨gl,hs,rfl,hk,hgl,hhs,hm⟩;have hbn:=below_new w2 (.cells #[.int .i64 2,.iface 226 (.pointer (some ⟨gl,0,none⟩))] 239);have HB:=Lib.hid (blk_new w2 (.cells #[.int .i64 2,.iface 226 (.pointer (some ⟨gl,0,none⟩))] 239));have hz:=hm.size;have hlt:=hk.2.1.lt;have HK:=Lib.hid (hk.same hbn);have hmm:=hm.alloc (.cells #[.int .i64 2,.iface 226 (.pointer (some ⟨gl,0,none⟩))] 239);clear hk hm hbn;go_wp2_with fail;go_ret2;exact⟨w2.heap.size,gl,hs,rfl,HB.out,HK.out,by omega,hmm⟩
theorem new_k3 (ga ha:Nat)(σ σ1:Ar)(w:World)(H:ArAt w ga ha σ)(hh:ha<w.heap.size)(n:Nat)(n1:1≤n)(n2:n≤32)(par:Int)(p1:1≤par)(p2:par≤32)(next:Int)(x1:1≤next)(x2:next≤4096)(ht:σ.take (1+par)=((next,0),σ1))(ho:σ1.ops≤1000000):
 Calls Tryz.prog 75 #[.pointer (some ⟨ga,0,none⟩),.int .i64 3,.int .i64 (n:Int),.int .i64 par] w fun e w'=>∃gf gl hs,e= .returned (.tuple #[.pointer (some ⟨gf,0,none⟩),.int .i64 0])∧FlB w' gf 3 229 (.pointer (some ⟨gl,0,none⟩))∧Pt.LkAt w' gl ga ha hs ⟨next,par⟩ (σ1.op 2 (Pt.place ⟨next,par⟩ 0) true 1) (Pt.zeroS n)∧(w.heap.size≤gf∧w.heap.size≤gl∧w.heap.size≤hs∧gf≠hs)∧Mod [ga,ha] w w':=by
 have HN:=Lib.hid (Pt.new_lk ga ha σ σ1 w H hh n n1 n2 par next p1 p2 x1 x2 ht ho);clear H ht;go_enter Tryz.func75,Tryz.ntmps75;go_wp2_with fail;refine HN.out.mono ?_;rintro e w2 ⟨gl,hs,rfl,hk,hgl,hhs,hm⟩;have hbn:=below_new w2 (.cells #[.int .i64 3,.iface 229 (.pointer (some ⟨gl,0,none⟩))] 239);have HB:=Lib.hid (blk_new w2 (.cells #[.int .i64 3,.iface 229 (.pointer (some ⟨gl,0,none⟩))] 239));have hz:=hm.size;have hlt:=hk.2.1.lt;have HK:=Lib.hid (hk.same hbn);have hmm:=hm.alloc (.cells #[.int .i64 3,.iface 229 (.pointer (some ⟨gl,0,none⟩))] 239);clear hk hm hbn;go_wp2_with fail;go_ret2;exact⟨w2.heap.size,gl,hs,rfl,HB.out,HK.out,by omega,hmm⟩
theorem new_k4 (ga ha:Nat)(σ σ1:Ar)(w:World)(H:ArAt w ga ha σ)(hh:ha<w.heap.size)(n:Nat)(n1:1≤n)(n2:n≤32)(par:Int)(next:Int)(x1:1≤next)(x2:next≤4096)(ht:σ.take (1+2*(n:Int))=((next,0),σ1))(ho:σ1.ops≤1000000):
 Calls Tryz.prog 75 #[.pointer (some ⟨ga,0,none⟩),.int .i64 4,.int .i64 (n:Int),.int .i64 par] w fun e w'=>∃gf gl hs,e= .returned (.tuple #[.pointer (some ⟨gf,0,none⟩),.int .i64 0])∧FlB w' gf 4 232 (.pointer (some ⟨gl,0,none⟩))∧Mc.LkAt w' gl ga ha hs ⟨next⟩ σ1 (Mc.zeroS n)∧(w.heap.size≤gf∧w.heap.size≤gl∧w.heap.size≤hs∧gf≠hs)∧Mod [ga,ha] w w':=by
 have HN:=Lib.hid (Mc.new_lk ga ha σ σ1 w H hh n n1 n2 next x1 x2 ht ho);clear H ht;go_enter Tryz.func75,Tryz.ntmps75;go_wp2_with fail;refine HN.out.mono ?_;rintro e w2 ⟨gl,hs,rfl,hk,hgl,hhs,hm⟩;have hbn:=below_new w2 (.cells #[.int .i64 4,.iface 232 (.pointer (some ⟨gl,0,none⟩))] 239);have HB:=Lib.hid (blk_new w2 (.cells #[.int .i64 4,.iface 232 (.pointer (some ⟨gl,0,none⟩))] 239));have hz:=hm.size;have hlt:=hk.2.1.lt;have HK:=Lib.hid (hk.same hbn);have hmm:=hm.alloc (.cells #[.int .i64 4,.iface 232 (.pointer (some ⟨gl,0,none⟩))] 239);clear hk hm hbn;go_wp2_with fail;go_ret2;exact⟨w2.heap.size,gl,hs,rfl,HB.out,HK.out,by omega,hmm⟩
theorem new_k5 (ga ha:Nat)(σ σ1:Ar)(w:World)(H:ArAt w ga ha σ)(hh:ha<w.heap.size)(n:Nat)(n1:1≤n)(n2:n≤32)(par:Int)(next:Int)(x1:1≤next)(x2:next≤4096)(ht:σ.take ((n:Int)+2)=((next,0),σ1))(ho:σ1.ops≤1000000):
 Calls Tryz.prog 75 #[.pointer (some ⟨ga,0,none⟩),.int .i64 5,.int .i64 (n:Int),.int .i64 par] w fun e w'=>∃gf gl hs,e= .returned (.tuple #[.pointer (some ⟨gf,0,none⟩),.int .i64 0])∧FlB w' gf 5 235 (.pointer (some ⟨gl,0,none⟩))∧Cl.LkAt w' gl ga ha hs ⟨next⟩ (σ1.op 2 next true ((n:Int)+1)) (Cl.first0 n)∧(w.heap.size≤gf∧w.heap.size≤gl∧w.heap.size≤hs∧gf≠hs)∧Mod [ga,ha] w w':=by
 have HN:=Lib.hid (Cl.new_lk ga ha σ σ1 w H hh n n1 n2 next x1 x2 ht ho);clear H ht;go_enter Tryz.func75,Tryz.ntmps75;go_wp2_with fail;refine HN.out.mono ?_;rintro e w2 ⟨gl,hs,rfl,hk,hgl,hhs,hm⟩;have hbn:=below_new w2 (.cells #[.int .i64 5,.iface 235 (.pointer (some ⟨gl,0,none⟩))] 239);have HB:=Lib.hid (blk_new w2 (.cells #[.int .i64 5,.iface 235 (.pointer (some ⟨gl,0,none⟩))] 239));have hz:=hm.size;have hlt:=hk.2.1.lt;have HK:=Lib.hid (hk.same hbn);have hmm:=hm.alloc (.cells #[.int .i64 5,.iface 235 (.pointer (some ⟨gl,0,none⟩))] 239);clear hk hm hbn;go_wp2_with fail;go_ret2;exact⟨w2.heap.size,gl,hs,rfl,HB.out,HK.out,by omega,hmm⟩
def sizeK (kind:Int)(n:Nat)(par:Int):Nat:=if kind=1 then 1 else if kind=2 then 2 else if kind=3 then 1+par.toNat else if kind=4 then 1+2*n else n+2
def mayK (kind:Int)(n:Nat)(par:Int):Prop:=(1≤kind∧kind≤5)∧(1≤n∧n≤32)∧(kind=1→1≤par∧par≤1024)∧(kind=3→1≤par∧par≤32)
def pkK (kind par:Int)(a:Nat):PK:=if kind=1 then .tas ⟨a,par⟩else if kind=2 then .tic ⟨a⟩else if kind=3 then .par ⟨a,par⟩else if kind=4 then .mcs ⟨a⟩else .clh ⟨a⟩
def firstK (kind:Int)(n:Nat)(par:Int)(a:Nat)(σ1:Ar):Ar×List Sp:=
 if kind=3 then(σ1.op 2 (Pt.place ⟨a,par⟩ 0) true 1,Pt.zeroS n)else if kind=5 then(σ1.op 2 (a:Int) true ((n:Int)+1),Cl.first0 n)else(σ1,Ta.zeroS n)
theorem take_ok {σ:Ar}{m:Nat}(h:σ.t+m≤σ.ws.length):σ.take (m:Int)=(((σ.t:Int)+1,0),{σ with t:=σ.t+m}):=by
 unfold Ar.take;rw[if_neg (by omega),if_neg (by omega),Int.toNat_natCast]
theorem zr_take {σ:Ar}{m:Nat}(h:σ.t+m≤σ.ws.length)(hz:∀k,σ.t≤k→σ.ws.getD k 0=0):Zr {σ with t:=σ.t+m} (σ.t+1) m:=by
 refine⟨h,by omega,by show σ.t+1+m≤σ.t+m+1;omega,fun q h1 h2=> ?_⟩;unfold Ar.get;split
 ·exact hz _ (by omega)
 ·rfl
def NewAft (kind:Int)(n:Nat)(par:Int)(ga ha:Nat)(σ:Ar)(w:World)(e:Ending)(w':World):Prop:=
 ∃gf gl hs,e= .returned (.tuple #[.pointer (some ⟨gf,0,none⟩),.int .i64 0])∧FLAt w' gf gl ga ha hs (pkK kind par (σ.t+1)) (firstK kind n par (σ.t+1) {σ with t:=σ.t+sizeK kind n par}).1 (firstK kind n par (σ.t+1) {σ with t:=σ.t+sizeK kind n par}).2∧(w.heap.size≤gf∧w.heap.size≤gl∧w.heap.size≤hs)∧Mod [ga,ha] w w'
theorem new_flat (kind:Int)(n:Nat)(par:Int)(hM:mayK kind n par)(ga ha:Nat)(σ:Ar)(w:World)(H:ArAt w ga ha σ)(hh:ha<w.heap.size)(hr:σ.t+sizeK kind n par≤σ.ws.length)(hw:σ.ws.length≤4096)(ho:σ.ops≤1000000):
 Calls Tryz.prog 75 #[.pointer (some ⟨ga,0,none⟩),.int .i64 kind,.int .i64 (n:Int),.int .i64 par] w (NewAft kind n par ga ha σ w):=by
 obtain⟨⟨k1,k5⟩,⟨n1,n2⟩,ha1,ha3⟩:=hM;have hga:=H.lt;have htk:=take_ok hr;rcases(show kind=1∨kind=2∨kind=3∨kind=4∨kind=5 by omega)with rfl|rfl|rfl|rfl|rfl
 ·obtain⟨m1,m2⟩:=ha1 rfl
  refine(new_k1 ga ha σ _ w H hh n n1 n2 par m1 m2 _ htk).mono ?_;rintro e w' ⟨gf,gl,hs,rfl,hf,hk,⟨b1,b2,b3,b4⟩,hm⟩;exact⟨gf,gl,hs,rfl,⟨hf,hk,by omega,by omega,b4⟩,⟨b1,b2,b3⟩,hm⟩
 ·refine(new_k2 ga ha σ _ w H hh n n1 n2 par _ htk).mono ?_
  rintro e w' ⟨gf,gl,hs,rfl,hf,hk,⟨b1,b2,b3,b4⟩,hm⟩;exact⟨gf,gl,hs,rfl,⟨hf,hk,by omega,by omega,b4⟩,⟨b1,b2,b3⟩,hm⟩
 ·obtain⟨p1,p2⟩:=ha3 rfl
  have hsz:sizeK 3 n par=1+par.toNat:=rfl;rw[hsz]at hr htk;rw[show((1+par.toNat:Nat):Int)=1+par by omega]at htk;refine(new_k3 ga ha σ _ w H hh n n1 n2 par p1 p2 _ (by omega) (by omega) htk ho).mono ?_;rintro e w' ⟨gf,gl,hs,rfl,hf,hk,⟨b1,b2,b3,b4⟩,hm⟩;exact⟨gf,gl,hs,rfl,⟨hf,hk,by omega,by omega,b4⟩,⟨b1,b2,b3⟩,hm⟩
 ·have hsz:sizeK 4 n par=1+2*n:=rfl
  rw[hsz]at hr htk;rw[show((1+2*n:Nat):Int)=1+2*(n:Int) by omega]at htk;refine(new_k4 ga ha σ _ w H hh n n1 n2 par _ (by omega) (by omega) htk ho).mono ?_;rintro e w' ⟨gf,gl,hs,rfl,hf,hk,⟨b1,b2,b3,b4⟩,hm⟩;exact⟨gf,gl,hs,rfl,⟨hf,hk,by omega,by omega,b4⟩,⟨b1,b2,b3⟩,hm⟩
 ·have hsz:sizeK 5 n par=n+2:=rfl
  rw[hsz]at hr htk;rw[show((n+2:Nat):Int)=(n:Int)+2 by omega]at htk;refine(new_k5 ga ha σ _ w H hh n n1 n2 par _ (by omega) (by omega) htk ho).mono ?_;rintro e w' ⟨gf,gl,hs,rfl,hf,hk,⟨b1,b2,b3,b4⟩,hm⟩;exact⟨gf,gl,hs,rfl,⟨hf,hk,by omega,by omega,b4⟩,⟨b1,b2,b3⟩,hm⟩
theorem ok_flat (kind:Int)(n:Nat)(par:Int)(hM:mayK kind n par)(σ:Ar)(hz:∀k,σ.t≤k→σ.ws.getD k 0=0)(hr:σ.t+sizeK kind n par≤σ.ws.length)(hw:σ.ws.length≤4096)(m:Nat)(ho:σ.ops≤m):
 OkK (pkK kind par (σ.t+1)) (firstK kind n par (σ.t+1) {σ with t:=σ.t+sizeK kind n par}).1 (firstK kind n par (σ.t+1) {σ with t:=σ.t+sizeK kind n par}).2 n m:=by
 obtain⟨⟨k1,k5⟩,⟨n1,n2⟩,ha1,ha3⟩:=hM;have hzr:=zr_take hr hz;rcases(show kind=1∨kind=2∨kind=3∨kind=4∨kind=5 by omega)with rfl|rfl|rfl|rfl|rfl
 ·obtain⟨m1,m2⟩:=ha1 rfl
  exact Ta.ok_st hzr par m1 m2 n m (by show σ.ops≤_;omega)
 ·exact Tk.ok_st hzr n m (by show σ.ops≤_;omega) (by have:sizeK 2 n par=2:=rfl;omega)
 ·obtain⟨p1,p2⟩:=ha3 rfl
  obtain⟨p,rfl⟩:=Int.eq_ofNat_of_zero_le (show 0≤par by omega);have h9:sizeK 3 n (p:Int)=1+p:=rfl;rw[h9]at hr;exact Pt.ok_st (p:=p) hzr (by omega) (by omega) n m ho (by omega)
 ·exact Mc.ok_st hzr n2 m (by show σ.ops≤_;omega) (by have:sizeK 4 n par=1+2*n:=rfl;omega)
 ·exact Cl.ok_st hzr n2 m ho (by have:sizeK 5 n par=n+2:=rfl;omega)
end Go.Proofs.YtfmiioddhpkdkaaGreat.Fl
