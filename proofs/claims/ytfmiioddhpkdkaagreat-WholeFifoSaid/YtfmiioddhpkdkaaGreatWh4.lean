/- Merged texts: Pa2, Pa3, On. -/
import Derived.Test.YtfmiioddhpkdkaaGreatWh3
import Derived.Deep.Cut
import Derived.Tactics2
import Derived.Defers
import Derived.Laws.Pointers
import Derived.Laws.LoneSync
import Derived.RegionTactic
import Derived.RegionCalls
import Derived.Laws.NewBlocks
set_option linter.unusedVariables false
set_option linter.unusedSimpArgs false
namespace Go.Proofs.YtfmiioddhpkdkaaGreat.Pa
open Go.RowKit Go.Proofs.YtfmiioddhpkdkaaGreat.Tp Go.Proofs.YtfmiioddhpkdkaaGreat.Li Go.Proofs.YtfmiioddhpkdkaaGreat.De Go.Proofs.YtfmiioddhpkdkaaGreat.Ara
theorem infoSI:(Tryz.prog.info? 22).map (fun i=>(i.zero,i.size,i.bytes))=some (some (.slice none 0 0),1,24):=by kernel_rfl
structure FnP (w:World)(gt pb tb eb gm B2:Nat)(p t:List Int)(lu:List Value)(ln ls mm:List Int)(vu vn vs:Value)(W:World):Prop where
 mm_:W.heap[gm]? =some (.cells (its mm) 3 (0,0))
 ou:W.ownsRow B2 22 1 vu lu.length lu
 on:W.ownsRow B2 3 1 vn ln.length (ln.map (Value.int .i64))
 os:W.ownsRow B2 3 1 vs ls.length (ls.map (Value.int .i64))
 un:Apart vu vn
 us:Apart vu vs
 ns:Apart vn vs
 md:Mod [gt] w W
 ord:gt<w.heap.size∧w.heap.size≤eb∧eb<gm∧gm<B2∧B2≤W.heap.size
 lv:Rw W eb (lvs p)
 rp:Rw W pb p
 rt:Rw W tb t
 bp:pb<w.heap.size∧tb<w.heap.size∧pb≠gt∧tb≠gt
section
variable {w:World}{gt pb tb eb gm B2:Nat}{p t:List Int}{lu:List Value}{ln ls mm:List Int}{vu vn vs:Value}{W W':World}(h:FnP w gt pb tb eb gm B2 p t lu ln ls mm vu vn vs W)
include h
theorem FnP.mod {S:List Nat}(hm:Mod S W W')(hS:∀x∈S,x=gt):FnP w gt pb tb eb gm B2 p t lu ln ls mm vu vn vs W':=by
 obtain⟨o1,o2,o3,o4,o5⟩:=h.ord;obtain⟨b1,b2,b3,b4⟩:=h.bp;have hm':Mod [gt] W W':=hm.sub (fun k hk=>by rw[hS k hk];simp)
 have key:∀ {v:Value} {n:Nat} {e:TypeId} {xs:List Value},W.ownsRow B2 e 1 v n xs→∀b,v.ownBlock=some b→b∉ [gt]:=fun ho b hb hx=>by
  have:=(own_block ho hb).1;have:b=gt:=by simpa using hx
  omega
 exact⟨hm'.blk h.mm_ (by simp;omega),own_apart h.ou hm' (key h.ou),own_apart h.on hm' (key h.on),own_apart h.os hm' (key h.os),h.un,h.us,h.ns,h.md.trans hm',⟨o1,o2,o3,o4,Nat.le_trans o5 hm.size⟩,
  h.lv.mod hm' (by omega) (by simp;omega),h.rp.mod hm' (by have:=h.md.size;omega) (by simp;omega),h.rt.mod hm' (by have:=h.md.size;omega) (by simp;omega),h.bp⟩
theorem FnP.same (hb:Below W.heap.size W W'):FnP w gt pb tb eb gm B2 p t lu ln ls mm vu vn vs W':=h.mod (S:=[]) (Mod.of_below hb) (by simp)
theorem FnP.set (k:Nat)(v:Value):FnP w gt pb tb eb gm B2 p t lu ln ls mm vu vn vs (W.setCell ⟨gt,k,none⟩ v):=h.mod (S:=[gt]) ((Mod.refl _ _).setCell (by simp) _) (by simp)
theorem FnP.pm (j:Nat)(y:Int):FnP w gt pb tb eb gm B2 p t lu ln ls (mm.set j y) vu vn vs (W.setCell ⟨gm,j,none⟩ (.int .i64 y)):=by
 obtain⟨o1,o2,o3,o4,o5⟩:=h.ord;obtain⟨b1,b2,b3,b4⟩:=h.bp;have hm':Mod [gm] W (W.setCell ⟨gm,j,none⟩ (.int .i64 y)):=(Mod.refl _ _).setCell (by simp) _;have hw:=h.md.size
 have key:∀ {v:Value} {n:Nat} {e:TypeId} {xs:List Value},W.ownsRow B2 e 1 v n xs→∀b,v.ownBlock=some b→b∉ [gm]:=fun ho b hb hx=>by
  have:=(own_block ho hb).1;have:b=gm:=by simpa using hx
  omega
 exact⟨its_set h.mm_ j y,own_apart h.ou hm' (key h.ou),own_apart h.on hm' (key h.on),own_apart h.os hm' (key h.os),h.un,h.us,h.ns,h.md.setNew (p:=⟨gm,j,none⟩) (by show w.heap.size≤gm;omega) _,⟨o1,o2,o3,o4,Nat.le_trans o5 hm'.size⟩,
  h.lv.mod hm' (by omega) (by simp;omega),h.rp.mod hm' (by omega) (by simp;omega),h.rt.mod hm' (by omega) (by simp;omega),h.bp⟩
theorem FnP.pn {v':Value}{x:Int}(hown:W'.ownsRow B2 3 1 v' (ln.length+1) (ln.map (Value.int .i64)++ [.int .i64 x]))(hg:W.grownBy W' vn.ownBlock)(hn:∀b,v'.ownBlock=some b→vn.ownBlock=some b∨W.heap.size≤b):
 FnP w gt pb tb eb gm B2 p t lu (ln++ [x]) ls mm vu v' vs W'∧Mod vn.ownBlock.toList W W'∧∀y∈vn.ownBlock.toList,B2≤y:=by
 obtain⟨o1,o2,o3,o4,o5⟩:=h.ord;obtain⟨b1,b2,b3,b4⟩:=h.bp;have hm:=grown_mod hg;have hw:=h.md.size;have hS:∀x∈vn.ownBlock.toList,vn.ownBlock=some x:=by simp
 have hB:∀x∈vn.ownBlock.toList,B2≤x:=fun x hx=>(own_block h.on (hS x hx)).1;have hno:∀q,q<B2→q∉vn.ownBlock.toList:=fun q hq hx=>by have:=hB q hx;omega
 have key:∀u,(∀b,u.ownBlock=some b→b<W.heap.size)→Apart u vn→Apart u v':=fun u hu ha b hb e=>by
  rcases hn b e with h9|h9
  ·exact ha b hb h9
  ·have:=hu b hb;omega
 have q2:=own_apart h.ou hm (fun b hb hx=>h.un b hb (hS b hx));have q3:=own_apart h.os hm (fun b hb hx=>h.ns.symm b hb (hS b hx));have k2:=key _ (fun b hb=>(own_block h.ou hb).2) h.un;have k3:=key _ (fun b hb=>(own_block h.os hb).2) h.ns.symm;have hmd:=h.md.of_grown hg (fun k hk=> .inl (by have:=(own_block h.on hk).1;omega));have r1:=hm.blk h.mm_ (hno gm o4);have r2:=h.lv.mod hm (by omega) (hno eb (by omega));have r3:=h.rp.mod hm (by omega) (hno pb (by omega));have r4:=h.rt.mod hm (by omega) (hno tb (by omega));have r5:=Nat.le_trans o5 hm.size;exact⟨⟨r1,q2,by simpa using hown,q3,k2,h.us,k3.symm,hmd,⟨o1,o2,o3,o4,r5⟩,r2,r3,r4,h.bp⟩,hm,hB⟩
theorem FnP.ps {v':Value}{x:Int}(hown:W'.ownsRow B2 3 1 v' (ls.length+1) (ls.map (Value.int .i64)++ [.int .i64 x]))(hg:W.grownBy W' vs.ownBlock)(hn:∀b,v'.ownBlock=some b→vs.ownBlock=some b∨W.heap.size≤b):
 FnP w gt pb tb eb gm B2 p t lu ln (ls++ [x]) mm vu vn v' W'∧Mod vs.ownBlock.toList W W'∧∀y∈vs.ownBlock.toList,B2≤y:=by
 obtain⟨o1,o2,o3,o4,o5⟩:=h.ord;obtain⟨b1,b2,b3,b4⟩:=h.bp;have hm:=grown_mod hg;have hw:=h.md.size;have hS:∀x∈vs.ownBlock.toList,vs.ownBlock=some x:=by simp
 have hB:∀x∈vs.ownBlock.toList,B2≤x:=fun x hx=>(own_block h.os (hS x hx)).1;have hno:∀q,q<B2→q∉vs.ownBlock.toList:=fun q hq hx=>by have:=hB q hx;omega
 have key:∀u,(∀b,u.ownBlock=some b→b<W.heap.size)→Apart u vs→Apart u v':=fun u hu ha b hb e=>by
  rcases hn b e with h9|h9
  ·exact ha b hb h9
  ·have:=hu b hb;omega
 have q2:=own_apart h.ou hm (fun b hb hx=>h.us b hb (hS b hx));have q3:=own_apart h.on hm (fun b hb hx=>h.ns b hb (hS b hx));have k2:=key _ (fun b hb=>(own_block h.ou hb).2) h.us;have k3:=key _ (fun b hb=>(own_block h.on hb).2) h.ns;have hmd:=h.md.of_grown hg (fun k hk=> .inl (by have:=(own_block h.os hk).1;omega));have r1:=hm.blk h.mm_ (hno gm o4);have r2:=h.lv.mod hm (by omega) (hno eb (by omega));have r3:=h.rp.mod hm (by omega) (hno pb (by omega));have r4:=h.rt.mod hm (by omega) (hno tb (by omega));have r5:=Nat.le_trans o5 hm.size;exact⟨⟨r1,q2,q3,by simpa using hown,h.un,k2,k3,hmd,⟨o1,o2,o3,o4,r5⟩,r2,r3,r4,h.bp⟩,hm,hB⟩
theorem FnP.pu {v':Value}{x:Value}(hown:W'.ownsRow B2 22 1 v' (lu.length+1) (lu++ [x]))(hg:W.grownBy W' vu.ownBlock)(hn:∀b,v'.ownBlock=some b→vu.ownBlock=some b∨W.heap.size≤b):
 FnP w gt pb tb eb gm B2 p t (lu++ [x]) ln ls mm v' vn vs W'∧Mod vu.ownBlock.toList W W'∧∀y∈vu.ownBlock.toList,B2≤y:=by
 obtain⟨o1,o2,o3,o4,o5⟩:=h.ord;obtain⟨b1,b2,b3,b4⟩:=h.bp;have hm:=grown_mod hg;have hw:=h.md.size;have hS:∀x∈vu.ownBlock.toList,vu.ownBlock=some x:=by simp
 have hB:∀x∈vu.ownBlock.toList,B2≤x:=fun x hx=>(own_block h.ou (hS x hx)).1;have hno:∀q,q<B2→q∉vu.ownBlock.toList:=fun q hq hx=>by have:=hB q hx;omega
 have key:∀u,(∀b,u.ownBlock=some b→b<W.heap.size)→Apart u vu→Apart u v':=fun u hu ha b hb e=>by
  rcases hn b e with h9|h9
  ·exact ha b hb h9
  ·have:=hu b hb;omega
 have q2:=own_apart h.on hm (fun b hb hx=>h.un.symm b hb (hS b hx));have q3:=own_apart h.os hm (fun b hb hx=>h.us.symm b hb (hS b hx));have k2:=key _ (fun b hb=>(own_block h.on hb).2) h.un.symm;have k3:=key _ (fun b hb=>(own_block h.os hb).2) h.us.symm;have hmd:=h.md.of_grown hg (fun k hk=> .inl (by have:=(own_block h.ou hk).1;omega));have r1:=hm.blk h.mm_ (hno gm o4);have r2:=h.lv.mod hm (by omega) (hno eb (by omega));have r3:=h.rp.mod hm (by omega) (hno pb (by omega));have r4:=h.rt.mod hm (by omega) (hno tb (by omega));have r5:=Nat.le_trans o5 hm.size;exact⟨⟨r1,by simpa using hown,q2,q3,k2.symm,k3.symm,h.ns,hmd,⟨o1,o2,o3,o4,r5⟩,r2,r3,r4,h.bp⟩,hm,hB⟩
end
theorem TbB.mod {S:List Nat}{W W':World}{gt:Nat}{A B:Value}{d st:Int}{vu vn vs vm:Value}(h:TbB W gt A B d st vu vn vs vm)(hm:Mod S W W')(hn:gt∉S):TbB W' gt A B d st vu vn vs vm:=hm.blk h hn
section
variable {W:World}{gt:Nat}{A B:Value}{d st:Int}{vu vn vs vm:Value}(h:TbB W gt A B d st vu vn vs vm)
include h
theorem TbB.setU (v:Value):TbB (W.setCell ⟨gt,5,none⟩ v) gt A B d st v vn vs vm:=by have:=blk_set h 5 v;simpa[TbB]using this
theorem TbB.setN (v:Value):TbB (W.setCell ⟨gt,6,none⟩ v) gt A B d st vu v vs vm:=by have:=blk_set h 6 v;simpa[TbB]using this
theorem TbB.setS (v:Value):TbB (W.setCell ⟨gt,7,none⟩ v) gt A B d st vu vn v vm:=by have:=blk_set h 7 v;simpa[TbB]using this
theorem TbB.setM (v:Value):TbB (W.setCell ⟨gt,8,none⟩ v) gt A B d st vu vn vs v:=by have:=blk_set h 8 v;simpa[TbB]using this
theorem TbB.cells:W.cell? ⟨gt,0,none⟩=some A∧W.cell? ⟨gt,1,none⟩=some B∧W.cell? ⟨gt,2,none⟩=some (.int .u32 d)∧W.cell? ⟨gt,3,none⟩=some (.int .i32 st)∧W.cell? ⟨gt,5,none⟩=some vu∧W.cell? ⟨gt,6,none⟩=some vn∧W.cell? ⟨gt,7,none⟩=some vs∧W.cell? ⟨gt,8,none⟩=some vm∧∀i,W.frozen? ⟨gt,i,none⟩=false:=
 ⟨blk_cell h 0 (by simp),blk_cell h 1 (by simp),blk_cell h 2 (by simp),blk_cell h 3 (by simp),blk_cell h 5 (by simp),blk_cell h 6 (by simp),blk_cell h 7 (by simp),blk_cell h 8 (by simp),blk_free h⟩
end
theorem wp_append1n {P:Program}{o:Oper}{a:Act}{K:Act→World→Prop}{Q:Exit→Act→World→Prop}(s x:Operand)(t e:TypeId)(z:Value)(size bytes:Nat)
 (ho:o.op= .call {callee:= .builtin .append,args:= #[s,x],argTypes:= #[t,t]}) (ht:P.underlying t=some (.slice e))
 (hinfo:(P.info? e).map (fun i=>(i.zero,i.size,i.bytes))=some (some z,size,bytes)) (hzs:z.cells.size=size) (hsz:0<size)
 (base:Nat) (w:World) (v:Value) (n:Nat) (xs:List Value) (news:Array Value) (e':TypeId) (c g:Nat) (hown:w.ownsRow base e size v n xs) (hs:a.eval s=v) (hx:a.eval x= .slice (some ⟨g,0,none⟩) 1 c) (hgs:w.heap.size=g)
 (hl:news.size=size) (h1:∀u∈news.toList,u.oneCell'=true) (h63:n+1≤maxLen) (hbytes:(n+1)*bytes≤140737488355328) (hbase:base≤w.heap.size)
 (h:∀v' w',Hid (w'.ownsRow base e size v' (n+1) (xs++news.toList))→Hid (w.grownBy w' v.ownBlock)→Hid (∀b,v'.ownBlock=some b→v.ownBlock=some b∨w.heap.size≤b)→K (a.put o.dst v') w'):
 o.wp P a (w.alloc (.cells news e')) K Q:=by
 subst hgs;obtain⟨i0,hi0,hz0,hz1,hz2⟩:=info_parts hinfo
 obtain⟨v',w',hr,h2,h3,_,h4⟩:=run_append_own_at (P:=P) (w.alloc (.cells news e')) base t o.type e i0 z size bytes ht hi0 hz0 hz1 hz2 hzs hsz v n xs (hown.alloc _) ⟨w.heap.size,0,none⟩ 1 c news.toList (by simpa using hl) (by
  intro j u hu;have hadd:(⟨w.heap.size,0,none⟩:Addr).add j=⟨w.heap.size,j,none⟩:=by unfold Addr.add;split<;>simp_all
  rw[hadd,World.cell?_alloc_at _ _ _ _ rfl];simpa using hu) h1 h63 hbytes (by simp;omega)
 unfold Oper.wp execOp;simp only[ho,resolve,invoke,builtin,Sem.run_bind,Sem.run_pure,Result.andThen_ok,List.map_toArray,List.map_cons,List.map_nil,hs,hx,hr];refine h v' w' h2 (grown_trans (World.grownBy_alloc w (.cells news e') v.ownBlock) h3) (fun b hb=> ?_);rcases h4 with h4|h4
 ·left;rw[←h4];exact hb
 ·right
  rw[h4]at hb;injection hb with hb;rw[←hb];simp
end Go.Proofs.YtfmiioddhpkdkaaGreat.Pa
namespace Go.Proofs.YtfmiioddhpkdkaaGreat.Pa
open Go.RowKit Go.Proofs.YtfmiioddhpkdkaaGreat.Tp Go.Proofs.YtfmiioddhpkdkaaGreat.Li Go.Proofs.YtfmiioddhpkdkaaGreat.De Go.Proofs.YtfmiioddhpkdkaaGreat.Ara
def ndL (p t:List Int)(k:Nat):List Int:=(List.range k).map fun j=>(ndI p t j:Int)
def slL (t:List Int)(k:Nat):List Int:=(List.range k).map fun j=>(slI t j:Int)
def mtL (p t:List Int)(k:Nat):List Int:=(List.range (lvs p).length).map fun n=>(cntK t ((lvs p).getD n 0) k:Int)
theorem ndL_len (p t:List Int)(k:Nat):(ndL p t k).length=k:=by simp[ndL]
theorem slL_len (t:List Int)(k:Nat):(slL t k).length=k:=by simp[slL]
theorem mtL_len (p t:List Int)(k:Nat):(mtL p t k).length=(lvs p).length:=by simp[mtL]
theorem ndL_succ (p t:List Int)(k:Nat):ndL p t (k+1)=ndL p t k++ [(ndI p t k:Int)]:=by unfold ndL;rw[List.range_succ,List.map_append];rfl
theorem slL_succ (t:List Int)(k:Nat):slL t (k+1)=slL t k++ [(slI t k:Int)]:=by unfold slL;rw[List.range_succ,List.map_append];rfl
theorem mtL_zero (p t:List Int):mtL p t 0=List.replicate (lvs p).length 0:=by
 refine List.ext_getElem (by simp[mtL]) fun j h1 h2=> ?_;simp[mtL,cntK]
theorem map_getD {f:Nat→Int}{n j:Nat}(h:j<n):((List.range n).map f).getD j 0=f j:=by
 rw[List.getD_eq_getElem?_getD,List.getElem?_map,List.getElem?_range h];rfl
theorem mtL_at {p t:List Int}{j:Nat}(k:Nat)(h:j<(lvs p).length):(mtL p t k).getD j 0=(cntK t ((lvs p).getD j 0) k:Int):=map_getD h
theorem mtL_slot {p t:List Int}{k:Nat}(h:t.getD k 0∈lvs p):(mtL p t k).getD (ndI p t k) 0=(slI t k:Int):=by
 obtain⟨h1,h2,_⟩:=nd_at h;rw[mtL_at k h1,h2];rfl
theorem mtL_succ {p t:List Int}{k:Nat}(h:t.getD k 0∈lvs p):mtL p t (k+1)=(mtL p t k).set (ndI p t k) ((slI t k:Int)+1):=by
 obtain⟨h1,h2,_⟩:=nd_at h;refine List.ext_getElem (by simp[mtL]) fun j g1 g2=> ?_;rw[List.getElem_set];have hj:j<(lvs p).length:=by rw[mtL_len]at g1;exact g1
 have e1:(mtL p t (k+1))[j]=(cntK t ((lvs p).getD j 0) (k+1):Int):=by simp[mtL]
 have e2:cntK t ((lvs p).getD j 0) (k+1)=cntK t ((lvs p).getD j 0) k+if t.getD k 0=(lvs p).getD j 0 then 1 else 0:=rfl
 rw[e1,e2];by_cases e:ndI p t k=j
 ·subst e
  rw[if_pos rfl,h2,if_pos rfl];rfl
 ·have e3:(mtL p t k)[j]'(by rw[mtL_len];exact hj)=(cntK t ((lvs p).getD j 0) k:Int):=by simp[mtL]
  have hne:t.getD k 0≠(lvs p).getD j 0:=fun e9=>by
   have hpw:=List.pairwise_iff_getElem.1 (lvs_nodup p);rw[←h2,List.getD_eq_getElem?_getD,List.getD_eq_getElem?_getD,List.getElem?_eq_getElem h1,List.getElem?_eq_getElem hj]at e9;rcases Nat.lt_or_gt_of_ne e with h5|h5
   ·exact hpw _ _ h1 hj h5 e9
   ·exact hpw _ _ hj h1 h5 e9.symm
  rw[if_neg e,e3,if_neg hne];rfl
theorem sl_rw {W:World}{b:Nat}{l:List Int}(h:Rw W b l)(hb:b<W.heap.size):Sl W W.heap.size (some ⟨b,0,none⟩) (l.flatMap decI):=by
 rw[Ara.flatI];refine .inr ⟨b,0,rfl,hb,fun j hj=> ?_⟩;have hj':j<l.length:=by simpa using hj
 rw[Nat.zero_add,h j hj',List.getD_eq_getElem?_getD,List.getElem?_eq_getElem hj'];simp
def FnS (w:World)(gt pb tb eb gm B2:Nat)(p t:List Int)(c d k:Nat)(lu:List Value)(ls mm:List Int)(vu vn vs:Value)(W:World):Prop:=
 FnP w gt pb tb eb gm B2 p t lu (ndL p t k) ls mm vu vn vs W∧TbB W gt (slA pb p c) (slA tb t d) 0 1 vu vn vs (.slice (some ⟨gm,0,none⟩) (lvs p).length (lvs p).length)
def FnJ (w:World)(gt pb tb eb gm B2:Nat)(p t:List Int)(c d ke:Nat)(a:Act)(W:World):Prop:=
 a.tmps.size=93∧a.defers=[]∧a.tmps.getD 0 undef= .pointer (some ⟨gt,0,none⟩)∧a.tmps.getD 2 undef= .slice (some ⟨eb,0,none⟩) (lvs p).length ke∧a.tmps.getD 23 undef= .slice (some ⟨tb,0,none⟩) t.length d∧a.tmps.getD 24 undef= .int .i64 (t.length:Int)∧
  ∃(k:Nat) (lu:List Value) (vu vn vs:Value),a.tmps.getD 25 undef= .int .i64 (k:Int)∧k≤t.length∧lu.length=k∧FnS w gt pb tb eb gm B2 p t c d k lu (slL t k) (mtL p t k) vu vn vs W
def FnR (w:World)(gt pb tb eb gm B2:Nat)(p t:List Int)(c d ke k j:Nat)(x:Int)(lu:List Value)(vu vn:Value)(a:Act)(W:World):Prop:=
 a.tmps.size=93∧a.defers=[]∧a.tmps.getD 0 undef= .pointer (some ⟨gt,0,none⟩)∧a.tmps.getD 2 undef= .slice (some ⟨eb,0,none⟩) (lvs p).length ke∧a.tmps.getD 4 undef= .int .i64 x∧a.tmps.getD 5 undef= .int .i64 (j:Int)∧a.tmps.getD 23 undef= .slice (some ⟨tb,0,none⟩) t.length d∧a.tmps.getD 24 undef= .int .i64 (t.length:Int)∧a.tmps.getD 25 undef= .int .i64 (k:Int)∧
  ∃vs,FnS w gt pb tb eb gm B2 p t c d (k+1) lu (slL t (k+1)) (mtL p t k) vu vn vs W
def FnU (gt eb tb:Nat)(p t:List Int)(d ke k:Nat)(w1:World)(a:Act)(W:World):Prop:=
 a.tmps.size=93∧a.defers=[]∧a.tmps.getD 0 undef= .pointer (some ⟨gt,0,none⟩)∧a.tmps.getD 2 undef= .slice (some ⟨eb,0,none⟩) (lvs p).length ke∧a.tmps.getD 23 undef= .slice (some ⟨tb,0,none⟩) t.length d∧a.tmps.getD 24 undef= .int .i64 (t.length:Int)∧a.tmps.getD 25 undef= .int .i64 (k:Int)∧
  ∃(x:Int) (v:Value) (n:Nat) (xs:List Value),a.tmps.getD 7 undef= .int .i64 x∧a.tmps.getD 6 undef=v∧-1≤x∧x<(p.length:Int)∧(n:Int)+x<(p.length:Int)∧W.ownsRow w1.heap.size 3 1 v n xs∧Below w1.heap.size w1 W
def FdAft (p t:List Int)(w:World)(gt:Nat)(A B:Value)(w':World):Prop:=
 ∃vu gn cn gs cs gm,TbB w' gt A B 0 1 vu (.slice (some ⟨gn,0,none⟩) t.length cn) (.slice (some ⟨gs,0,none⟩) t.length cs) (.slice (some ⟨gm,0,none⟩) (lvs p).length (lvs p).length)∧Rw w' gn (ndL p t t.length)∧Rw w' gs (slL t t.length)∧Rw w' gm (mtL p t t.length)∧
  Mod [gt] w w'∧(w.heap.size≤gn∧w.heap.size≤gs∧w.heap.size≤gm)∧gn<w'.heap.size∧gs<w'.heap.size∧gm<w'.heap.size
theorem frame93 {a:Act}(h:a.tmps.size=93)(hd:a.defers=[]):∃u:Nat→Value,a={tmps:= #[u 0,u 1,u 2,u 3,u 4,u 5,u 6,u 7,u 8,u 9,u 10,u 11,u 12,u 13,u 14,u 15,u 16,u 17,u 18,u 19,u 20,u 21,u 22,u 23,u 24,u 25,u 26,u 27,u 28,u 29,u 30,u 31,u 32,u 33,u 34,u 35,u 36,u 37,u 38,u 39,u 40,u 41,u 42,u 43,u 44,u 45,u 46,u 47,u 48,u 49,u 50,u 51,u 52,u 53,u 54,u 55,u 56,u 57,u 58,u 59,u 60,u 61,u 62,u 63,u 64,u 65,u 66,u 67,u 68,u 69,u 70,u 71,u 72,u 73,u 74,u 75,u 76,u 77,u 78,u 79,u 80,u 81,u 82,u 83,u 84,u 85,u 86,u 87,u 88,u 89,u 90,u 91,u 92],defers:=[]}∧∀n,a.tmps.getD n undef=u n:=by
 refine⟨fun n=>a.tmps.getD n undef,?_,fun _=>rfl⟩;have h1:=arr_lit a.tmps h;cases a with
 |mk t d=>
  simp only at hd h1;subst hd;congr 1
set_option maxRecDepth 100000 in
set_option maxHeartbeats 8000000 in
theorem find_any (p t:List Int)(h:chk p t=0)(gt pb tb c d:Nat)(w:World)(hT:TbB w gt (slA pb p c) (slA tb t d) 0 1 nilV nilV nilV nilV)(hp:Rw w pb p)(ht:Rw w tb t)(hn:pb≠gt∧tb≠gt)(hl:pb<w.heap.size∧tb<w.heap.size):
 Calls Tryz.prog 112 #[.pointer (some ⟨gt,0,none⟩)] w fun e w'=>e= .returned (.tuple #[])∧FdAft p t w gt (slA pb p c) (slA tb t d) w':=by
 obtain⟨l1,l2,l3,l4⟩:=chk_len h;obtain⟨n1,n2⟩:=hn;obtain⟨hl1,hl2⟩:=hl;have hgt:=lt_of_blk hT;have hLL:=lvs_len p;have HLE:=Lib.hid (tleaves_row p t _ _ c d w h (sl_rw hp hl1) (sl_rw ht hl2));have HM:=Lib.hid (fun k hk=>chk_mem (k:=k) h hk);have HTR:=Lib.hid (chk_ok h).2.1;have hmk:=fun W=>make_ints (lvs p).length (by omega) W;have HT:=Lib.hid hT;have HP:=Lib.hid hp;have HQ:=Lib.hid ht;obtain⟨c0,c1,-,-,-,-,-,c8,fz⟩:=hT.cells;have f8:=fz 8;simp only[slA]at c0 c1;clear hp ht h fz hT;go_enter Tryz.func112,Tryz.ntmps112;go_wp2_with fail;refine HLE.out.mono ?_;rintro e w1 ⟨eb,ke,rfl,e1,e2,re,b1⟩;have hT1:=HT.out.mod (S:=[]) (Mod.of_below b1) (by simp);have HP1:=Lib.hid (HP.out.mod (S:=[]) (Mod.of_below b1) hl1 (by simp));have HQ1:=Lib.hid (HQ.out.mod (S:=[]) (Mod.of_below b1) hl2 (by simp));clear c0 c1 c8 f8;obtain⟨c0,c1,-,-,-,-,-,c8,fz⟩:=hT1.cells;have f8:=fz 8;simp only[slA]at c0 c1;have hs1:=b1.size;have HRE:=Lib.hid re;have HB1:=Lib.hid b1;have HT1:=Lib.hid hT1;clear fz hT1 HLE re b1
 have FP0:=Lib.hid (show FnP w gt pb tb eb w1.heap.size (w1.heap.size+1) p t [] [] [] (List.replicate (lvs p).length 0) nilV nilV nilV (w1.alloc (.cells (its (List.replicate (lvs p).length 0)) 3)) from
  ⟨blk_new _ _,World.ownsRow_nil _ _ _ _,World.ownsRow_nil _ _ _ _,World.ownsRow_nil _ _ _ _,(fun b hb=>by cases hb),(fun b hb=>by cases hb),(fun b hb=>by cases hb),(Mod.of_below HB1.out).alloc _,⟨hgt,e1,e2,by omega,by simp⟩,
   HRE.out.mod (S:=[]) (Mod.of_below (below_new _ _)) e2 (by simp),HP1.out.mod (S:=[]) (Mod.of_below (below_new _ _)) (by omega) (by simp),HQ1.out.mod (S:=[]) (Mod.of_below (below_new _ _)) (by omega) (by simp),⟨hl1,hl2,n1,n2⟩⟩)
 have FT0:=Lib.hid (HT1.out.mod (S:=[]) (Mod.of_below (below_new w1 (.cells (its (List.replicate (lvs p).length 0)) 3))) (by simp));obtain⟨-,e1',-,-,-,-,-,e8,fz⟩:=FT0.out.cells;have g8:=fz 8;simp only[slA]at e1';clear fz;go_wp2_with fail;refine wp_loop (FnJ w gt pb tb eb w1.heap.size (w1.heap.size+1) p t c d ke) (fun a' _=>t.length-(intOf (a'.tmps.getD 25 undef)).toNat) ?_ ?_
 ·exact⟨rfl,rfl,rfl,rfl,rfl,rfl,0,[],_,_,_,rfl,Nat.zero_le _,rfl,by rw[mtL_zero];exact FP0.out.set 8 _,FT0.out.setM _⟩
 ·clear c0 c1 c8 f8 e1' e8 g8 FP0 FT0 hmk HP1 HQ1 HT1 HRE HT HP HQ
  rintro a' W ⟨hsz,hdf,s0,s2,s23,s24,k,lu,vu,vn,vs,s25,hk,hlu,hF,hTb⟩;obtain⟨u,rfl,hu⟩:=frame93 hsz hdf;rw[hu]at s0 s2 s23 s24 s25;simp only[s0,s2,s23,s24,s25];clear hsz hdf s0 s2 s23 s24 s25 hu;have HF:=Lib.hid hF;have HTb:=Lib.hid hTb;have HLU:=Lib.hid hlu;clear hlu;by_cases hlt:k<t.length
  ·have hmem:=HM.out k hlt
   obtain⟨hj,hjv,hidx⟩:=nd_at hmem;have HNS:=Lib.hid (ndL_succ p t k);have HSS:=Lib.hid (slL_succ t k);have HMS:=Lib.hid (mtL_succ hmem);have hms:=mtL_slot hmem;have hlf:=mem_lvs.1 hmem;have hsb:slI t k≤k:=cntK_bound _ _ _;have r0:=hF.rt k hlt;have HI:=Lib.hid (fun W9 hW9=>index_any (lvs p) eb 0 ke (t.getD k 0) W9 (by omega) hW9);rw[hidx]at HI;have hI:=HI.out W (fun j hj=>by rw[Nat.zero_add];exact hF.lv j hj);have HII:=Lib.hid hI;have hon:=hF.on;have HNL:=Lib.hid (ndL_len p t k);obtain⟨o1,o2,o3,o4,o5⟩:=hF.ord;obtain⟨-,-,-,-,-,d6,-,-,fz⟩:=hTb.cells;have f6:=fz 6;have i1:(k:Int)<(t.length:Int):=by omega
   have hx0:0≤t.getD k 0:=hlf.1;have hx1:t.getD k 0<(p.length:Int):=hlf.2.1;clear hF hTb fz hmem hjv hidx hlf hI HI;have HJ:=Lib.hid (show ndI p t k=ndI p t k from rfl);generalize hjj:ndI p t k=j at*;generalize hss:slI t k=s at*;have HJ2:=Lib.hid hjj;have HS2:=Lib.hid hss;clear hjj hss HJ;generalize t.getD k 0=x at*
   go_upto_region 7 with(first
    |(go_at_call 78;refine HII.out.mono ?_;rintro e wx ⟨rfl,hwx⟩;obtain rfl:=hwx.symm)
    |(at_builtin;refine wpList_append1_at (.tmp 36) (.tmp 38) 22 3 _ 1 8 rfl rfl Tryz.underlying22 infoI rfl (by decide) (w1.heap.size+1) _ _ _ _ _ _ _ _ hon rfl rfl ?cgA rfl ?d1A ?d2A ?d3A ?d4A ?ckA;case' ckA=>(intro vn' w2 hown2 hg2 hn2;obtain⟨An,cn,rfl,_,_,_⟩:=own_slice hown2.out;have HP2:=Lib.hid (HF.out.pn (x:=(j:Int)) hown2.out hg2.out hn2.out);have HT2:=Lib.hid (HTb.out.mod HP2.out.2.1 (fun hx=>by have:=HP2.out.2.2 _ hx;omega));have e6:=HT2.out.cells.2.2.2.2.2.1;have g6:=HT2.out.cells.2.2.2.2.2.2.2.2 6)))
   case cgA=>first|rfl|simp
   case d1A=>simp[Value.oneCell']
   case d2A=>have:=HNL.out;simp only[maxLen];omega
   case d3A=>have:=HNL.out;omega
   case d4A=>omega
   have HP7:=Lib.hid (HP2.out.1.set 6 (.slice An ((ndL p t k).length+1) cn));have HT7:=Lib.hid (HT2.out.setN (.slice An ((ndL p t k).length+1) cn));rw[←HNS.out]at HP7;clear HP2 HT2 HF HTb e6 g6 hown2 hg2 hn2 hon d6 f6 r0 HII;generalize w2.setCell ⟨gt,6,none⟩ (.slice An ((ndL p t k).length+1) cn)=W7 at*;generalize Value.slice An ((ndL p t k).length+1) cn=vn1 at*;refine wp_cut (FnR w gt pb tb eb w1.heap.size (w1.heap.size+1) p t c d ke k j x lu vu vn1) ?_ ?_
   ·rintro a' W8 ⟨hsz,hdf,s0,s2,s4,s5,s23,s24,s25,vs1,hF,hTb⟩
    obtain⟨u,rfl,hu⟩:=frame93 hsz hdf;rw[hu]at s0 s2 s4 s5 s23 s24 s25;simp only[s0,s2,s4,s5,s23,s24,s25];clear hsz hdf s0 s2 s4 s5 s23 s24 s25 hu;have HF:=Lib.hid hF;have HTb:=Lib.hid hTb;have d8:=hTb.cells.2.2.2.2.2.2.2.1;have m0:=its_cell hF.mm_ (i:=j) (by rw[mtL_len];exact hj);have m1:=blk_free hF.mm_ j;rw[hms]at m0;have HP9:=Lib.hid (hF.pm j ((s:Int)+1));rw[←HMS.out]at HP9;have HT9:=Lib.hid (hTb.mod (S:=[w1.heap.size]) ((Mod.refl _ _).setCell (p:=⟨w1.heap.size,j,none⟩) (by simp) (.int .i64 ((s:Int)+1))) (by simp;omega));clear hF hTb HP7 HT7;go_wp2_with fail;clear d8 m0 m1;generalize W8.setCell ⟨w1.heap.size,j,none⟩ (.int .i64 ((s:Int)+1))=W9 at*;refine wp_loop (FnU gt eb tb p t d ke k W9) (fun a' _=>(intOf (a'.tmps.getD 7 undef)+1).toNat) ?_ ?_
    ·exact⟨rfl,rfl,rfl,rfl,rfl,rfl,rfl,_,_,0,[],rfl,rfl,by omega,hx1,by omega,World.ownsRow_nil _ _ _ _,Below.refl _ _⟩
    ·rintro a' W ⟨hsz,hdf,s0,s2,s23,s24,s25,y,v,n,xs,s7,s6,y0,y1,hny,hown,hbel⟩
     obtain⟨u,rfl,hu⟩:=frame93 hsz hdf;rw[hu]at s0 s2 s23 s24 s25 s7 s6;simp only[s0,s2,s23,s24,s25,s7,s6];clear hsz hdf s0 s2 s23 s24 s25 s7 s6 hu;have hw9:=HP9.out.ord.2.2.2.2;have hsW:=hbel.size;have HPw:=Lib.hid (HP9.out.same hbel);have HTw:=Lib.hid (HT9.out.mod (S:=[]) (Mod.of_below hbel) (by simp));by_cases hy:0≤y
     ·obtain⟨yn,rfl⟩:=Int.eq_ofNat_of_zero_le hy
      have hyn:yn<p.length:=by omega
      have hyp:(0:Int)≤(yn:Int):=by omega
      have r1:=HPw.out.rp yn hyn;have htr:=HTR.out yn hyn;have d0:=HTw.out.cells.1;simp only[slA]at d0
      have hz: -1≤p.getD yn 0∧p.getD yn 0<(yn:Int):=by
       split at htr<;>omega
      have HB:=Lib.hid hbel;have hown1:=hown;clear htr hown hbel;generalize hzz:p.getD yn 0=z at*;have HZ:=Lib.hid hzz;clear hzz;go_wp2_with(at_builtin;refine wpList_append1 (.tmp 78) (.tmp 80) 22 3 _ 1 8 rfl rfl Tryz.underlying22 infoI rfl (by decide) W9.heap.size _ _ _ _ _ _ _ _ hown1 rfl rfl ?cgU rfl ?d1U ?d2U ?d3U ?d4U ?ckU;case' ckU=>(intro v' w5 hown5 hb5 _;have HO5:=Lib.hid hown5;have HB5:=Lib.hid (HB.out.trans hb5);clear hown5 hb5;have HPv:=Lib.hid (HP9.out.same HB5.out);have HTv:=Lib.hid (HT9.out.mod (S:=[]) (Mod.of_below HB5.out) (by simp));have r1v:=HPv.out.rp yn hyn;rw[HZ.out]at r1v;have d0v:=HTv.out.cells.1;simp only[slA]at d0v))
      case cgU=>first|rfl|simp
      case d1U=>simp[Value.oneCell']
      case d2U=>simp only[maxLen];omega
      case d3U=>omega
      case d4U=>omega
      go_wp2_with fail;go_roundw
      case rel=>exact⟨rfl,rfl,rfl,rfl,rfl,rfl,rfl,z,v',n+1,_,rfl,rfl,hz.1,by omega,by omega,HO5.out,HB5.out⟩
      case measure=>simp[intOf];omega
     ·have hyp:¬(0:Int)≤y:=hy
      obtain⟨Av,cv,rfl,_,_,_⟩:=own_slice hown;have d5:=HTw.out.cells.2.2.2.2.1;have hou:=HPw.out.ou;have hsB:w1.heap.size+1≤W.heap.size:=HPw.out.ord.2.2.2.2;clear hown hbel;go_wp2_with(at_builtin;refine wpList_append1_at (.tmp 86) (.tmp 88) 130 22 _ 1 24 rfl rfl Tryz.underlying130 infoSI rfl (by decide) (w1.heap.size+1) _ _ _ _ _ _ _ _ hou rfl rfl ?cgX rfl ?d1X ?d2X ?d3X ?d4X ?ckX;case' ckX=>(intro vu' w5 hown5 hg5 hn5;obtain⟨Au,cu,rfl,_,_,_⟩:=own_slice hown5.out;have HPv:=Lib.hid (HPw.out.pu (x:= .slice Av n cv) hown5.out hg5.out hn5.out);have HTv:=Lib.hid (HTw.out.mod HPv.out.2.1 (fun hx=>by have:=HPv.out.2.2 _ hx;omega));have e5:=HTv.out.cells.2.2.2.2.1;have g5:=HTv.out.cells.2.2.2.2.2.2.2.2 5))
      case cgX=>first|rfl|simp
      case d1X=>simp[Value.oneCell']
      case d2X=>have:=HLU.out;simp only[maxLen];omega
      case d3X=>have:=HLU.out;omega
      go_wp2_with fail;go_roundw
      case rel=>exact⟨rfl,rfl,rfl,rfl,rfl,rfl,k+1,_,_,_,_,by go_num,by omega,by rw[List.length_append,HLU.out];rfl,HPv.out.1.set 5 _,HTv.out.setU _⟩
      case measure=>simp[intOf];omega
   ·intro J K' hJ hK'
    have HPd:=Lib.hid (HP7.out.same (show Below W7.heap.size W7 W7.drew from Below.drew (Below.refl _ _)));have HTd:=Lib.hid (show TbB W7.drew gt (slA pb p c) (slA tb t d) 0 1 vu vn1 vs (.slice (some ⟨w1.heap.size,0,none⟩) (lvs p).length (lvs p).length) from HT7.out)
    have SW0:W7.drew.cell? ⟨gt,8,none⟩=some (.slice (some ⟨w1.heap.size,0,none⟩) (lvs p).length (lvs p).length)∧W7.drew.cell? ⟨w1.heap.size,j,none⟩=some (.int .i64 (s:Int)):=
     ⟨HTd.out.cells.2.2.2.2.2.2.2.1,by rw[its_cell HPd.out.mm_ (by rw[mtL_len];exact hj),hms]⟩
    refine wp_region_held_drew (S:=fun V=>V.cell? ⟨gt,8,none⟩=some (.slice (some ⟨w1.heap.size,0,none⟩) (lvs p).length (lvs p).length)∧V.cell? ⟨w1.heap.size,j,none⟩=some (.int .i64 (s:Int))) (by kernel_rfl) SW0 (fun hHeld=> ?_);generalize W7.drew=X0 at*;have d7:=HTd.out.cells.2.2.2.2.2.2.1;have o6:=HPd.out.ord.2.2.2.2;have hos:=HPd.out.os;have HKL:=Lib.hid (slL_len t k);clear HP7 HT7;refine take_to 0 (some 42) (v:= ?_) rfl rfl (by kernel_rfl) (by kernel_rfl) (by kernel_rfl) (fun _ _ _ h=>h) (Or.inl ⟨by rfl,?_⟩) (by first|trivial|assumption) ?_;rotate_left;focus(intro w hSw;(try dsimp only at hSw);go_simp;(try with_reducible rfl))
    simp only[Act.put,List.setIfInBounds_toArray,List.set_cons_zero,List.set_cons_succ];refine take_to 1 (some 43) (v:= ?_) rfl rfl (by kernel_rfl) (by kernel_rfl) (by kernel_rfl) (fun _ _ _ h=>h) (Or.inl ⟨by rfl,?_⟩) (by first|trivial|assumption) ?_;rotate_left;focus(intro w hSw;(try dsimp only at hSw);go_simp;(try with_reducible rfl))
    simp only[Act.put,List.setIfInBounds_toArray,List.set_cons_zero,List.set_cons_succ];refine take_to 2 (some 44) (v:= ?_) rfl rfl (by kernel_rfl) (by kernel_rfl) (by kernel_rfl) (fun _ _ _ h=>h) (Or.inl ⟨by rfl,?_⟩) (by first|trivial|assumption) ?_;rotate_left;focus(intro w hSw;(try dsimp only at hSw);go_simp;(try with_reducible rfl))
    simp only[Act.put,List.setIfInBounds_toArray,List.set_cons_zero,List.set_cons_succ];refine take_to 3 (some 45) (v:= ?_) rfl rfl (by kernel_rfl) (by kernel_rfl) (by kernel_rfl) (fun _ _ _ h=>h) (Or.inl ⟨by rfl,?_⟩) (by first|trivial|assumption) ?_;rotate_left;focus(intro w hSw;(try dsimp only at hSw);go_simp;(try with_reducible rfl))
    simp only[Act.put,List.setIfInBounds_toArray,List.set_cons_zero,List.set_cons_succ];refine take_to 5 (some 47) (v:= ?_) rfl rfl (by kernel_rfl) (by kernel_rfl) (by kernel_rfl) (fun _ _ _ h=>h) (Or.inl ⟨by rfl,?_⟩) (by first|trivial|assumption) ?_;rotate_left;focus(intro w hSw;(try dsimp only at hSw);go_simp;(try with_reducible rfl))
    simp only[Act.put,List.setIfInBounds_toArray,List.set_cons_zero,List.set_cons_succ];refine take_to 6 (some 48) (v:= ?_) rfl rfl (by kernel_rfl) (by kernel_rfl) (by kernel_rfl) (fun _ _ _ h=>h) (Or.inl ⟨by rfl,?_⟩) (by first|trivial|assumption) ?_;rotate_left;focus(intro w hSw;(try dsimp only at hSw);go_simp;(try with_reducible rfl))
    simp only[Act.put,List.setIfInBounds_toArray,List.set_cons_zero,List.set_cons_succ];refine take_to 7 (some 49) (v:= ?_) rfl rfl (by kernel_rfl) (by kernel_rfl) (by kernel_rfl) (fun _ _ _ h=>h) (Or.inl ⟨by rfl,?_⟩) (by first|trivial|assumption) ?_;rotate_left;focus(intro w hSw;(try dsimp only at hSw);go_simp;(try with_reducible rfl))
    simp only[Act.put,List.setIfInBounds_toArray,List.set_cons_zero,List.set_cons_succ];refine take_to 8 (some 50) (v:= ?_) rfl rfl (by kernel_rfl) (by kernel_rfl) (by kernel_rfl) (fun _ _ _ h=>h) (Or.inl ⟨by rfl,?_⟩) (by first|trivial|assumption) ?_;rotate_left;focus(intro w hSw;(try dsimp only at hSw);go_simp;(try with_reducible rfl))
    simp only[Act.put,List.setIfInBounds_toArray,List.set_cons_zero,List.set_cons_succ];refine take_to 9 (some 51) (v:= ?_) rfl rfl (by kernel_rfl) (by kernel_rfl) (by kernel_rfl) (fun _ _ _ h=>h) (Or.inl ⟨by rfl,?_⟩) (by first|trivial|assumption) ?_;rotate_left;focus(intro w hSw;(try dsimp only at hSw);go_simp;(try with_reducible rfl))
    simp only[Act.put,List.setIfInBounds_toArray,List.set_cons_zero,List.set_cons_succ];refine take_to 10 (some 52) (v:= ?_) rfl rfl (by kernel_rfl) (by kernel_rfl) (by kernel_rfl) (fun _ _ _ h=>h) (Or.inl ⟨by rfl,?_⟩) (by first|trivial|assumption) ?_;rotate_left;focus(intro w hSw;(try dsimp only at hSw);go_simp;(try with_reducible rfl))
    simp only[Act.put,List.setIfInBounds_toArray,List.set_cons_zero,List.set_cons_succ];refine take_to 11 (some 53) (v:= ?_) rfl rfl (by kernel_rfl) (by kernel_rfl) (by kernel_rfl) (fun _ _ _ h=>h) (Or.inl ⟨by rfl,?_⟩) (by first|trivial|assumption) ?_;rotate_left;focus(intro w hSw;(try dsimp only at hSw);go_simp;(try with_reducible rfl))
    simp only[Act.put,List.setIfInBounds_toArray,List.set_cons_zero,List.set_cons_succ];have HPa:=Lib.hid (HPd.out.same (below_new X0 (.cells #[.int .i64 (s:Int)] 3)));have HTa:=Lib.hid (HTd.out.mod (S:=[]) (Mod.of_below (below_new X0 (.cells #[.int .i64 (s:Int)] 3))) (by simp));have d7a:=HTa.out.cells.2.2.2.2.2.2.1
    have SWa:(X0.alloc (.cells #[.int .i64 (s:Int)] 3)).cell? ⟨gt,8,none⟩=some (.slice (some ⟨w1.heap.size,0,none⟩) (lvs p).length (lvs p).length)∧(X0.alloc (.cells #[.int .i64 (s:Int)] 3)).cell? ⟨w1.heap.size,j,none⟩=some (.int .i64 (s:Int)):=
     ⟨HTa.out.cells.2.2.2.2.2.2.2.1,by rw[its_cell HPa.out.mm_ (by rw[mtL_len];exact hj),hms]⟩
    refine wpAnyH_ready (rs:=[4,12]) (by kernel_rfl) (by simp) ?_;refine AllReadyH.cons rfl (fun K hK=> ?_) (AllReadyH.cons rfl (fun K hK=> ?_) AllReadyH.nil)
    ·go_simp
     refine hK.out _ _ SW0 (fun hHeld=> ?_);refine wpAnyH_ready (rs:=[12]) (by kernel_rfl) (by simp) ?_;refine AllReadyH.cons rfl (fun K hK=> ?_) AllReadyH.nil;go_simp;refine hK.out _ _ SWa (fun hHeld=> ?_);refine wpAnyH_ready (rs:=[13]) (by kernel_rfl) (by simp) ?_;refine AllReadyH.cons rfl (fun K hK=> ?_) AllReadyH.nil;refine wp_append1n (.tmp 46) (.tmp 54) 22 3 _ 1 8 rfl Tryz.underlying22 infoI rfl (by decide) (w1.heap.size+1) X0 vs (slL t k).length _ _ _ _ _ hos rfl rfl rfl rfl (by simp[Value.oneCell']) (by have:=HKL.out;simp only[maxLen];omega) (by have:=HKL.out;omega) o6 (fun vs' W8 hown8 hg8 hn8=> ?_);obtain⟨As,cs,rfl,_,_,_⟩:=own_slice hown8.out;have HP8:=Lib.hid (HPd.out.ps (x:=(s:Int)) hown8.out hg8.out hn8.out);have HT8:=Lib.hid (HTd.out.mod HP8.out.2.1 (fun hx=>by have:=HP8.out.2.2 _ hx;omega));have e7:=HT8.out.cells.2.2.2.2.2.2.1;have g7:=HT8.out.cells.2.2.2.2.2.2.2.2 7
     have SW8:W8.cell? ⟨gt,8,none⟩=some (.slice (some ⟨w1.heap.size,0,none⟩) (lvs p).length (lvs p).length)∧W8.cell? ⟨w1.heap.size,j,none⟩=some (.int .i64 (s:Int)):=
      ⟨HT8.out.cells.2.2.2.2.2.2.2.1,by rw[its_cell HP8.out.1.mm_ (by rw[mtL_len];exact hj),hms]⟩
     simp only[Act.put,List.setIfInBounds_toArray,List.set_cons_zero,List.set_cons_succ];refine hK.out _ _ SW8 (fun hHeld=> ?_);refine take_to 14 (some 56) (v:= ?_) rfl rfl (by kernel_rfl) (by kernel_rfl) (by kernel_rfl) (fun _ _ _ h=>h) (Or.inl ⟨by rfl,?_⟩) (by first|trivial|assumption) ?_;rotate_left;focus(intro w hSw;(try dsimp only at hSw);go_simp;(try with_reducible rfl))
     simp only[Act.put,List.setIfInBounds_toArray,List.set_cons_zero,List.set_cons_succ];refine take_to 15 (some 57) (v:= ?_) rfl rfl (by kernel_rfl) (by kernel_rfl) (by kernel_rfl) (fun _ _ _ h=>h) (Or.inl ⟨by rfl,?_⟩) (by first|trivial|assumption) ?_;rotate_left;focus(intro w hSw;(try dsimp only at hSw);go_simp;(try with_reducible rfl))
     simp only[Act.put,List.setIfInBounds_toArray,List.set_cons_zero,List.set_cons_succ];have HP9:=Lib.hid (HP8.out.1.set 7 (.slice As ((slL t k).length+1) cs));have HT9:=Lib.hid (HT8.out.setS (.slice As ((slL t k).length+1) cs));rw[←HSS.out]at HP9
     have SW9:(W8.setCell ⟨gt,7,none⟩ (.slice As ((slL t k).length+1) cs)).cell? ⟨gt,8,none⟩=some (.slice (some ⟨w1.heap.size,0,none⟩) (lvs p).length (lvs p).length)∧(W8.setCell ⟨gt,7,none⟩ (.slice As ((slL t k).length+1) cs)).cell? ⟨w1.heap.size,j,none⟩=some (.int .i64 (s:Int)):=
      ⟨HT9.out.cells.2.2.2.2.2.2.2.1,by rw[its_cell HP9.out.mm_ (by rw[mtL_len];exact hj),hms]⟩
     refine wpAnyH_ready (rs:=[16]) (by kernel_rfl) (by simp) ?_;refine AllReadyH.cons rfl (fun K hK=> ?_) AllReadyH.nil;go_simp;refine hK.out _ _ SW9 (fun hHeld=> ?_);refine wpAnyH_done (by kernel_rfl) ?_ _;exact hK' _ _ (Met.intro (hJ _ _ ⟨rfl,rfl,rfl,rfl,rfl,rfl,rfl,rfl,rfl,_,HP9.out,HT9.out⟩))
    ·go_simp
     refine hK.out _ _ SWa (fun hHeld=> ?_);refine wpAnyH_ready (rs:=[4]) (by kernel_rfl) (by simp) ?_;refine AllReadyH.cons rfl (fun K hK=> ?_) AllReadyH.nil;go_simp;refine hK.out _ _ SWa (fun hHeld=> ?_);refine wpAnyH_ready (rs:=[13]) (by kernel_rfl) (by simp) ?_;refine AllReadyH.cons rfl (fun K hK=> ?_) AllReadyH.nil;refine wp_append1n (.tmp 46) (.tmp 54) 22 3 _ 1 8 rfl Tryz.underlying22 infoI rfl (by decide) (w1.heap.size+1) X0 vs (slL t k).length _ _ _ _ _ hos rfl rfl rfl rfl (by simp[Value.oneCell']) (by have:=HKL.out;simp only[maxLen];omega) (by have:=HKL.out;omega) o6 (fun vs' W8 hown8 hg8 hn8=> ?_);obtain⟨As,cs,rfl,_,_,_⟩:=own_slice hown8.out;have HP8:=Lib.hid (HPd.out.ps (x:=(s:Int)) hown8.out hg8.out hn8.out);have HT8:=Lib.hid (HTd.out.mod HP8.out.2.1 (fun hx=>by have:=HP8.out.2.2 _ hx;omega));have e7:=HT8.out.cells.2.2.2.2.2.2.1;have g7:=HT8.out.cells.2.2.2.2.2.2.2.2 7
     have SW8:W8.cell? ⟨gt,8,none⟩=some (.slice (some ⟨w1.heap.size,0,none⟩) (lvs p).length (lvs p).length)∧W8.cell? ⟨w1.heap.size,j,none⟩=some (.int .i64 (s:Int)):=
      ⟨HT8.out.cells.2.2.2.2.2.2.2.1,by rw[its_cell HP8.out.1.mm_ (by rw[mtL_len];exact hj),hms]⟩
     simp only[Act.put,List.setIfInBounds_toArray,List.set_cons_zero,List.set_cons_succ];refine hK.out _ _ SW8 (fun hHeld=> ?_);refine take_to 14 (some 56) (v:= ?_) rfl rfl (by kernel_rfl) (by kernel_rfl) (by kernel_rfl) (fun _ _ _ h=>h) (Or.inl ⟨by rfl,?_⟩) (by first|trivial|assumption) ?_;rotate_left;focus(intro w hSw;(try dsimp only at hSw);go_simp;(try with_reducible rfl))
     simp only[Act.put,List.setIfInBounds_toArray,List.set_cons_zero,List.set_cons_succ];refine take_to 15 (some 57) (v:= ?_) rfl rfl (by kernel_rfl) (by kernel_rfl) (by kernel_rfl) (fun _ _ _ h=>h) (Or.inl ⟨by rfl,?_⟩) (by first|trivial|assumption) ?_;rotate_left;focus(intro w hSw;(try dsimp only at hSw);go_simp;(try with_reducible rfl))
     simp only[Act.put,List.setIfInBounds_toArray,List.set_cons_zero,List.set_cons_succ];have HP9:=Lib.hid (HP8.out.1.set 7 (.slice As ((slL t k).length+1) cs));have HT9:=Lib.hid (HT8.out.setS (.slice As ((slL t k).length+1) cs));rw[←HSS.out]at HP9
     have SW9:(W8.setCell ⟨gt,7,none⟩ (.slice As ((slL t k).length+1) cs)).cell? ⟨gt,8,none⟩=some (.slice (some ⟨w1.heap.size,0,none⟩) (lvs p).length (lvs p).length)∧(W8.setCell ⟨gt,7,none⟩ (.slice As ((slL t k).length+1) cs)).cell? ⟨w1.heap.size,j,none⟩=some (.int .i64 (s:Int)):=
      ⟨HT9.out.cells.2.2.2.2.2.2.2.1,by rw[its_cell HP9.out.mm_ (by rw[mtL_len];exact hj),hms]⟩
     refine wpAnyH_ready (rs:=[16]) (by kernel_rfl) (by simp) ?_;refine AllReadyH.cons rfl (fun K hK=> ?_) AllReadyH.nil;go_simp;refine hK.out _ _ SW9 (fun hHeld=> ?_);refine wpAnyH_done (by kernel_rfl) ?_ _;exact hK' _ _ (Met.intro (hJ _ _ ⟨rfl,rfl,rfl,rfl,rfl,rfl,rfl,rfl,rfl,_,HP9.out,HT9.out⟩))
  ·obtain rfl:k=t.length:=by omega
   have i1:¬(t.length:Int)<(t.length:Int):=by omega
   have HNL:=Lib.hid (ndL_len p t t.length);have HSL:=Lib.hid (slL_len t t.length);have HML:=Lib.hid (mtL_len p t t.length);clear hF hTb;go_wp2_with fail;go_end0;have ho:=HF.out.ord;obtain⟨gn,cn,rfl,n3,n4,n5⟩:=Rw.of_own HF.out.on (by rw[HNL.out];exact l3);obtain⟨gs,cs,rfl,s3,s4,s5⟩:=Rw.of_own HF.out.os (by rw[HSL.out];exact l3);rw[HNL.out,HSL.out]at HTb;refine⟨rfl,vu,gn,cn,gs,cs,w1.heap.size,HTb.out,n5,s5,fun j hj=>its_cell HF.out.mm_ hj,HF.out.md,⟨by omega,by omega,by omega⟩,n4,s4,by omega⟩
end Go.Proofs.YtfmiioddhpkdkaaGreat.Pa
namespace Go.Proofs.YtfmiioddhpkdkaaGreat.On
open Go.RowKit
theorem disable (w:World):(callFunc 131 #[]).run Tryz.prog w= .ok (.value (.tuple #[])) w:=run_call_mark0 Tryz.func131 (by kernel_rfl) (by kernel_rfl) (by kernel_rfl) .disable (by kernel_rfl) w
theorem enable (w:World):(callFunc 133 #[]).run Tryz.prog w= .ok (.value (.tuple #[])) w:=run_call_mark0 Tryz.func133 (by kernel_rfl) (by kernel_rfl) (by kernel_rfl) .enable (by kernel_rfl) w
theorem acquire (a:Addr)(w:World):(callFunc 134 #[.pointer (some a)]).run Tryz.prog w= .ok (.value (.tuple #[])) w:=run_call_marked Tryz.func134 (by kernel_rfl) (by kernel_rfl) (by kernel_rfl) .acquire (by kernel_rfl) a w
theorem releaseMerge (a:Addr)(w:World):(callFunc 136 #[.pointer (some a)]).run Tryz.prog w= .ok (.value (.tuple #[])) w:=run_call_marked Tryz.func136 (by kernel_rfl) (by kernel_rfl) (by kernel_rfl) .releaseMerge (by kernel_rfl) a w
theorem store_deferred (a:Addr)(x:Value)(u:FrameMode)(w:World)(hc:w.cell? a=some x)(hz:w.frozen? a=false):
 CallsD Tryz.prog 126 #[.pointer (some a),.bool true] u w fun e u' w'=>u'=u∧(e= .returned (.tuple #[])∧w'=w.drew.setCell a (.int .u32 1)):=by
 have hc':w.drew.cell? a=some x:=by go_simp
 have hz':w.drew.frozen? a=false:=by go_simp
 have hst:=run_call_store (P:=Tryz.prog) Tryz.func129 (by kernel_rfl) (by kernel_rfl) (by kernel_rfl) (by kernel_rfl) (k:= .u32) (y:=1) hc' hz';go_enter_d Tryz.func126,Tryz.ntmps126;go_wp2;go_region_calls
 all_goals(go_end0;exact⟨rfl,rfl⟩)
set_option maxRecDepth 100000 in
theorem unlock_deferred (a:Addr)(u:FrameMode)(w:World)(hc:w.cell? a=some (.int .i32 1))(hz:w.frozen? a=false):
 CallsD Tryz.prog 125 #[.pointer (some a)] u w fun e u' w'=>u'=u∧(e= .returned (.tuple #[])∧w'=w.setCell a (.int .i32 0)):=by
 have hd:=disable;have he:=enable;have hr:=releaseMerge;have hadd:=run_call_add (P:=Tryz.prog) Tryz.func137 (by kernel_rfl) (by kernel_rfl) (by kernel_rfl) .i32 (by kernel_rfl) (y:= -1) (s:=0) hc hz (by simp[go_sem];rfl);have hcv:=run_convert_to_unsafe (P:=Tryz.prog) (src:=300) (dst:=304) Tryz.underlying300 Tryz.underlying304 (by kernel_rfl) hc;go_enter_d Tryz.func125,Tryz.ntmps125;go_wp2;go_end0;go_wp2;go_end0;exact⟨rfl,rfl⟩
set_option maxRecDepth 100000 in
theorem lock_free (a:Addr)(w:World)(hc:w.cell? a=some (.int .i32 0))(hz:w.frozen? a=false):
 Calls Tryz.prog 124 #[.pointer (some a)] w fun e w'=>e= .returned (.tuple #[])∧w'=w.setCell a (.int .i32 1):=by
 have hd:=disable;have he:=enable;have ha:=acquire;have hcas:=run_call_cas_hit (P:=Tryz.prog) Tryz.func132 (by kernel_rfl) (by kernel_rfl) (by kernel_rfl) .i32 (by kernel_rfl) (y:=1) hc hz;have hc':(w.setCell a (.int .i32 1)).cell? a=some (.int .i32 1):=World.cell?_setCell_same w a _ hc;have hcv:=run_convert_to_unsafe (P:=Tryz.prog) (src:=300) (dst:=304) Tryz.underlying300 Tryz.underlying304 (by kernel_rfl) hc';go_enter Tryz.func124,Tryz.ntmps124;go_wp2;first|go_end0|(simp only[Exit.inBlock,Exit.then];refine bodyPost_ret (results_none rfl _ _ _) rfl ?_)|refine bodyPost_ret (results_none rfl _ _ _) rfl ?_
 go_wp2;go_end0;exact⟨rfl,rfl⟩
theorem do_done (a:Addr)(d:Int)(hd:¬d=0)(fv:Value)(w:World)(h0:w.cell? a=some (.int .u32 d)):
 Calls Tryz.prog 111 #[.pointer (some a),fv] w fun e w'=>e= .returned (.tuple #[])∧w'=w:=by
 have hl:=run_call_load (P:=Tryz.prog) Tryz.func123 (by kernel_rfl) (by kernel_rfl) (by kernel_rfl) .u32 (by kernel_rfl) h0;have hnot:∀(x:Bool) (w:World),(Op.unary .not (.bool x)).run Tryz.prog w= .ok (.bool (!x)) w:=fun _ _=>rfl;have hd':(d !=0)=true:=by simp[hd]
 go_enter Tryz.func111,Tryz.ntmps111;go_wp2;go_end0;exact⟨rfl,rfl⟩
def FAft (g:Nat)(R:World→Prop)(e:Ending)(W:World):Prop:=e= .returned (.tuple #[])∧R W∧W.cell? ⟨g,2,none⟩=some (.int .u32 0)∧W.cell? ⟨g,3,none⟩=some (.int .i32 1)∧W.frozen? ⟨g,2,none⟩=false∧W.frozen? ⟨g,3,none⟩=false
set_option maxRecDepth 100000 in
set_option maxHeartbeats 1600000 in
theorem slow_any (g:Nat)(w:World)(h0:w.cell? ⟨g,2,none⟩=some (.int .u32 0))(h1:w.cell? ⟨g,3,none⟩=some (.int .i32 0))(f1:w.frozen? ⟨g,3,none⟩=false)(R:World→Prop)
 (HF:Calls Tryz.prog 112 #[.pointer (some ⟨g,0,none⟩)] (w.setCell ⟨g,3,none⟩ (.int .i32 1)) (FAft g R)):
 Calls Tryz.prog 118 #[.pointer (some ⟨g,2,none⟩),.func (.func 112) #[.pointer (some ⟨g,0,none⟩)] #[]] w fun e w'=>e= .returned (.tuple #[])∧∃W,R W∧w'=(W.drew.setCell ⟨g,2,none⟩ (.int .u32 1)).setCell ⟨g,3,none⟩ (.int .i32 0):=by
 have hl:=run_call_load (P:=Tryz.prog) Tryz.func123 (by kernel_rfl) (by kernel_rfl) (by kernel_rfl) .u32 (by kernel_rfl) (w:=w.setCell ⟨g,3,none⟩ (.int .i32 1)) (a:=⟨g,2,none⟩) (x:=0) ((World.cell?_setCell_other _ ⟨g,3,none⟩ ⟨g,2,none⟩ _ (by simp)).trans h0);have hnot:∀(x:Bool) (w:World),(Op.unary .not (.bool x)).run Tryz.prog w= .ok (.bool (!x)) w:=fun _ _=>rfl;have HF':=Lib.hid HF;clear HF;go_enter_defers Tryz.func118,Tryz.ntmps118;go_wp2_with(first|(go_at_call 124;refine(lock_free ⟨g,3,none⟩ _ h1 f1).mono ?_;rintro e w' ⟨rfl,rfl⟩)|(go_at_call 112;refine HF'.out.mono ?_;rintro e W ⟨rfl,hR,c2,c3,z2,z3⟩)|(go_at_call 117;go_in));refine leaves_cons (f:=126) (args:= #[.pointer (some ⟨g,2,none⟩),.bool true]) (by simp) (by simp[go_sem]) ?_;refine(store_deferred ⟨g,2,none⟩ (.int .u32 0) .returning _ c2 z2).mono ?_;rintro e u' w'' ⟨rfl,rfl,rfl⟩;refine leaves_cons (f:=125) (args:= #[.pointer (some ⟨g,3,none⟩)]) (by simp[settle]) (by simp[go_sem]) ?_;refine(unlock_deferred ⟨g,3,none⟩ _ _ ?_ (by simp[z3])).mono ?_
 ·refine(World.cell?_setCell_other _ ⟨g,2,none⟩ ⟨g,3,none⟩ _ (by simp)).trans ?_
  rw[World.cell?_drew];exact c3
 rintro e u' w'' ⟨rfl,rfl,rfl⟩;simp[Leaves,settle,results,Tryz.results118];exact⟨_,hR,rfl⟩
theorem do_first (g:Nat)(w:World)(h0:w.cell? ⟨g,2,none⟩=some (.int .u32 0))(h1:w.cell? ⟨g,3,none⟩=some (.int .i32 0))(f1:w.frozen? ⟨g,3,none⟩=false)(R:World→Prop)
 (HF:Calls Tryz.prog 112 #[.pointer (some ⟨g,0,none⟩)] (w.setCell ⟨g,3,none⟩ (.int .i32 1)) (FAft g R)):
 Calls Tryz.prog 111 #[.pointer (some ⟨g,2,none⟩),.func (.func 112) #[.pointer (some ⟨g,0,none⟩)] #[]] w fun e w'=>e= .returned (.tuple #[])∧∃W,R W∧w'=(W.drew.setCell ⟨g,2,none⟩ (.int .u32 1)).setCell ⟨g,3,none⟩ (.int .i32 0):=by
 have hl:=run_call_load (P:=Tryz.prog) Tryz.func123 (by kernel_rfl) (by kernel_rfl) (by kernel_rfl) .u32 (by kernel_rfl) h0;have hnot:∀(x:Bool) (w:World),(Op.unary .not (.bool x)).run Tryz.prog w= .ok (.bool (!x)) w:=fun _ _=>rfl;have HS:=Lib.hid (slow_any g w h0 h1 f1 R HF);clear HF;go_enter Tryz.func111,Tryz.ntmps111;go_wp2_with(first|(go_at_call 118;refine HS.out.mono ?_;rintro e w' ⟨rfl,W,hR,rfl⟩)|(go_at_call 117;go_in));go_end0;exact⟨rfl,_,hR,rfl⟩
end Go.Proofs.YtfmiioddhpkdkaaGreat.On
