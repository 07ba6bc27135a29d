/- Merged texts: Heap, Make, Same, TpO, TpP, Tp1, Tp2. -/
import Derived.Test.YtfmiioddhpkdkaaGreatOpen
import Derived.Deep.OwnRows
import Derived.Laws.MakeOwn
set_option linter.unusedVariables false
set_option linter.unusedSimpArgs false
namespace Go.Proofs.YtfmiioddhpkdkaaGreat
open Go.RowKit
structure Mod (S:List Nat)(a w:World):Prop where
 os:w.os=a.os
 tape:w.tape=a.tape
 output:w.output=a.output
 size:a.heap.size≤w.heap.size
 block:∀k,k<a.heap.size→k∉S→w.heap[k]? =a.heap[k]?
theorem Mod.refl (S:List Nat)(w:World):Mod S w w:=⟨rfl,rfl,rfl,Nat.le_refl _,fun _ _ _=>rfl⟩
theorem Mod.trans {S:List Nat}{a b c:World}(h:Mod S a b)(k:Mod S b c):Mod S a c:=
 ⟨k.os.trans h.os,k.tape.trans h.tape,k.output.trans h.output,Nat.le_trans h.size k.size,fun i hi hn=>(k.block i (Nat.lt_of_lt_of_le hi h.size) hn).trans (h.block i hi hn)⟩
theorem Mod.drewN {S:List Nat}{a w:World}(h:Mod S a w)(n:Nat):Mod S a (w.drewN n):=⟨h.os,h.tape,h.output,h.size,h.block⟩
theorem Mod.drew {S:List Nat}{a w:World}(h:Mod S a w):Mod S a w.drew:=⟨h.os,h.tape,h.output,h.size,h.block⟩
theorem Mod.alloc {S:List Nat}{a w:World}(h:Mod S a w)(o:Obj):Mod S a (w.alloc o):=
 h.trans ⟨rfl,rfl,rfl,by simp,fun k hk _=>Below.heap_alloc _ _ _ hk⟩
theorem Mod.setCell {S:List Nat}{a w:World}(h:Mod S a w){p:Addr}(hp:p.block∈S)(u:Value):Mod S a (w.setCell p u):=
 h.trans ⟨rfl,rfl,rfl,by simp[World.setCell],fun k _ hn=>Below.heap_setCell _ _ _ _ (fun e=>hn (e▸hp))⟩
theorem Mod.setNew {S:List Nat}{a w:World}(h:Mod S a w){p:Addr}(hp:a.heap.size≤p.block)(u:Value):Mod S a (w.setCell p u):=
 ⟨h.os,h.tape,h.output,by have:=h.size;simpa[World.setCell]using this,fun k hk hn=>(Below.heap_setCell _ _ _ _ (by omega)).trans (h.block k hk hn)⟩
theorem Mod.sub {S T:List Nat}{a w:World}(h:Mod S a w)(hs:∀k,k∈S→k∈T):Mod T a w:=
 ⟨h.os,h.tape,h.output,h.size,fun k hk hn=>h.block k hk (fun e=>hn (hs k e))⟩
theorem Mod.of_below {S:List Nat}{a w:World}(h:Below a.heap.size a w):Mod S a w:=⟨h.os,h.tape,h.output,h.size,fun k hk _=>h.block k hk⟩
theorem Mod.below {S:List Nat}{B:Nat}{a w:World}(h:Mod S a w)(hB:B≤a.heap.size)(hS:∀k∈S,B≤k):Below B a w:=
 ⟨h.os,h.tape,h.output,h.size,fun k hk=>h.block k (by omega) (fun e=>by have:=hS k e;omega)⟩
theorem Mod.below_of {S:List Nat}{B:Nat}{w a b:World}(hb:Below B w a)(h:Mod S a b)(hB:B≤a.heap.size)(hS:∀k∈S,B≤k):Below B w b:=hb.trans (h.below hB hS)
theorem Mod.all {a w:World}(h:Mod [] a w):Below a.heap.size a w:=h.below (Nat.le_refl _) (by simp)
theorem lt_of_blk {w:World}{g:Nat}{o:Obj}(h:w.heap[g]? =some o):g<w.heap.size:=by
 rcases Nat.lt_or_ge g w.heap.size with k|k
 ·exact k
 ·rw[Array.getElem?_eq_none k]at h;cases h
theorem Mod.blk {S:List Nat}{a w:World}(h:Mod S a w){g:Nat}{o:Obj}(hg:a.heap[g]? =some o)(hn:g∉S):w.heap[g]? =some o:=(h.block g (lt_of_blk hg) hn).trans hg
theorem blk_alloc {w:World}{g:Nat}{o:Obj}(h:w.heap[g]? =some o)(x:Obj):(w.alloc x).heap[g]? =some o:=(Below.heap_alloc w x g (lt_of_blk h)).trans h
theorem blk_new (w:World)(x:Obj):(w.alloc x).heap[w.heap.size]? =some x:=by show(w.heap.push x)[w.heap.size]? =_;simp
theorem blk_other {w:World}{g:Nat}{o:Obj}(h:w.heap[g]? =some o){p:Addr}(hn:g≠p.block)(u:Value):(w.setCell p u).heap[g]? =some o:=(Below.heap_setCell w p u g hn).trans h
theorem blk_cell {w:World}{g:Nat}{cs:Array Value}{t:TypeId}(h:w.heap[g]? =some (.cells cs t (0,0)))(i:Nat)(hi:i<cs.size):w.cell? ⟨g,i,none⟩=some cs[i]:=by
 simp[World.cell?,h,hi]
theorem blk_free {w:World}{g:Nat}{cs:Array Value}{t:TypeId}(h:w.heap[g]? =some (.cells cs t (0,0)))(i:Nat):w.frozen? ⟨g,i,none⟩=false:=by
 simp[World.frozen?,h]
theorem Sl.mod {S:List Nat}{a w:World}{B:Nat}{A:Option Addr}{xs:List Value}(h:Sl a B A xs)(hm:Mod S a w)(hB:B≤a.heap.size)(hS:∀k∈S,B≤k):Sl w B A xs:=h.below (hm.below hB hS)
theorem own_mod {w w':World}{S:List Nat}{base:Nat}{e:TypeId}{size:Nat}{v:Value}{n:Nat}{xs:List Value}(h:w.ownsRow base e size v n xs)(hm:Mod S w w')(hS:∀k∈S,k<base):w'.ownsRow base e size v n xs:=by
 refine⟨h.1,?_⟩;rcases h.2 with hn|⟨g,cap,cur,rfl,hb,hg,rest⟩
 ·exact .inl hn
 ·exact .inr ⟨g,cap,cur,rfl,hb,hm.blk hg (fun e=>by have:=hS g e;omega),rest⟩
theorem Mod.of_grown {S:List Nat}{a w w':World}{row:Option Nat}(h:Mod S a w)(hg:w.grownBy w' row)(hr:∀k,row=some k→a.heap.size≤k∨k∈S):Mod S a w':=
 ⟨hg.os.trans h.os,hg.tape.trans h.tape,hg.output.trans h.output,Nat.le_trans h.size hg.size,fun k hk hn=>(hg.block k (Nat.lt_of_lt_of_le hk h.size) (fun e=>by
  rcases hr k e.symm with q|q
  ·omega
  ·exact hn q)).trans (h.block k hk hn)⟩
end Go.Proofs.YtfmiioddhpkdkaaGreat
namespace Go.Proofs.YtfmiioddhpkdkaaGreat
open Go.RowKit
theorem made_flat (z:Array Value)(n:Nat):madeCells z (n*z.size)=((List.replicate n z.toList).flatten).toArray:=by
 apply Array.ext
 ·simp[madeCells]
 ·intro i h1 h2
  have hi:i<n*z.size:=by simpa[madeCells]using h1
  have hz:0<z.size:=Nat.pos_of_ne_zero (fun h=>by rw[h]at hi;simp at hi);have hm:i%z.size<z.size:=Nat.mod_lt _ hz
  have key:∀n i,i<n*z.size→((List.replicate n z.toList).flatten)[i]? =z[i%z.size]? :=by
   intro n
   induction n with
   |zero=>intro i hi;simp at hi
   |succ n ih=>
    intro i hi;rw[List.replicate_succ,List.flatten_cons];by_cases hlt:i<z.size
    ·rw[List.getElem?_append_left (by simpa using hlt),Nat.mod_eq_of_lt hlt]
     simp
    ·rw[List.getElem?_append_right (by simp;omega),ih _ (by rw[Nat.add_mul]at hi;simp;omega)]
     simp only[Array.length_toList];rw[←Nat.mod_eq_sub_mod (by omega)]
  have h3:=key n i hi;rw[List.getElem?_eq_getElem (by simpa using h2),Array.getElem?_eq_getElem hm]at h3;simp only[madeCells,Array.getElem_map,Array.getElem_range,List.getElem_toArray];rw[Option.some.inj h3];simp[hm]
theorem run_make_rows {P:Program}(t e:TypeId)(z:Value)(size bytes:Nat)(ht:P.underlying t=some (.slice e))(hinfo:(P.info? e).map (fun i=>(i.zero,i.size,i.bytes))=some (some z,size,bytes))(hz1:z.cells.size=size)
 (kl kc:IntKind) (n:Nat) (hbytes:bytes*n≤281474976710656) (h63:n≤9223372036854775807) (w:World):
 (Instr.makeSlice t (.int kl (n:Int)) (.int kc (n:Int))).run P w= .ok (.slice (some ⟨w.heap.size,0,none⟩) n n) (w.alloc (.cells ((List.replicate n z.cells.toList).flatten).toArray e)):=by
 obtain⟨i,hi,hzz⟩:=Option.map_eq_some_iff.1 hinfo;simp only[Prod.mk.injEq]at hzz;obtain⟨hz,hs,hb⟩:=hzz
 have hb':(i.bytes:Int)*(n:Int)≤281474976710656:=by
  have h:((i.bytes*n:Nat):Int)≤281474976710656:=by rw[hb];omega
  rwa [Int.natCast_mul]at h
 have hr:=run_make (P:=P) w t e i z ht hi hz kl kc n n (by omega) (Int.le_refl _) hb' (by omega);simp only[Int.toNat_natCast,hs,←hz1,made_flat]at hr;exact hr
end Go.Proofs.YtfmiioddhpkdkaaGreat
namespace Go.Proofs.YtfmiioddhpkdkaaGreat.Ara
open Go.RowKit
def decI (n:Int):List Value:=[.int .i64 n]
theorem flatI (l:List Int):l.flatMap decI=l.map (Value.int .i64):=by
 induction l with
 |nil=>rfl
 |cons a l ih=>rw[List.flatMap_cons,List.map_cons,ih];rfl
end Go.Proofs.YtfmiioddhpkdkaaGreat.Ara
namespace Go.Proofs.YtfmiioddhpkdkaaGreat.Li
open Go.RowKit
theorem nx {w a b:World}(h:Below w.heap.size w a)(k:Below a.heap.size a b):Below w.heap.size w b:=h.trans (k.mono h.size)
end Go.Proofs.YtfmiioddhpkdkaaGreat.Li
namespace Go.Proofs.YtfmiioddhpkdkaaGreat.De
open Go.RowKit
theorem infoI:(Tryz.prog.info? 3).map (fun i=>(i.zero,i.size,i.bytes))=some (some (.int .i64 0),1,8):=by kernel_rfl
end Go.Proofs.YtfmiioddhpkdkaaGreat.De
namespace Go.Proofs.YtfmiioddhpkdkaaGreat.Tp
def treeP (p:List Int):Prop:=∀v,v<p.length→if v=0 then p.getD v 0= -1 else 0≤p.getD v 0∧p.getD v 0<(v:Int)
instance(p:List Int):Decidable (treeP p):=by unfold treeP;infer_instance
def deepF (p:List Int):Nat→Int→Nat
 |0,_=>0
 |k+1,v=>if 0≤v∧v<(p.length:Int)then deepF p k (p.getD v.toNat 0)+1 else 0
def dep (p:List Int)(v:Int):Nat:=deepF p p.length v
def leafP (p:List Int)(v:Int):Prop:=0≤v∧v<(p.length:Int)∧v∉p
instance(p:List Int)(v:Int):Decidable (leafP p v):=by unfold leafP;infer_instance
def lvK (p:List Int)(k:Nat):List Int:=((List.range k).map fun v:Nat=>(v:Int)).filter fun v=>decide (v∉p)
def lvs (p:List Int):List Int:=lvK p p.length
def flatP (p:List Int):Prop:=∀v∈lvs p,∀w∈lvs p,dep p v=dep p w∧dep p v≤5
instance(p:List Int):Decidable (flatP p):=by unfold flatP;infer_instance
def manyP (p t:List Int):Prop:=p.length<1∨32<p.length∨t.length<1∨32<t.length
instance(p t:List Int):Decidable (manyP p t):=by unfold manyP;infer_instance
def chk (p t:List Int):Int:=if manyP p t then 8 else if treeP p∧flatP p then(if∀x∈t,leafP p x then 0 else 4)else 9
theorem lvK_succ (p:List Int)(k:Nat):lvK p (k+1)=if(k:Int)∈p then lvK p k else lvK p k++ [(k:Int)]:=by
 unfold lvK;rw[List.range_succ,List.map_append,List.filter_append];by_cases h:(k:Int)∈p
 ·simp[h]
 ·simp[h]
theorem lvK_len (p:List Int)(k:Nat):(lvK p k).length≤k:=by
 unfold lvK;refine Nat.le_trans (List.length_filter_le _ _) ?_;simp
theorem mem_lvK {p:List Int}{k:Nat}{v:Int}:v∈lvK p k↔0≤v∧v<(k:Int)∧v∉p:=by
 unfold lvK;rw[List.mem_filter,List.mem_map];constructor
 ·rintro⟨⟨a,ha,rfl⟩,hb⟩
  rw[List.mem_range]at ha;exact⟨by omega,by omega,by simpa using hb⟩
 ·rintro⟨h1,h2,h3⟩
  exact⟨⟨v.toNat,by rw[List.mem_range];omega,by omega⟩,by simpa using h3⟩
theorem mem_lvs {p:List Int}{v:Int}:v∈lvs p↔leafP p v:=mem_lvK
theorem getD_mem {p:List Int}{v:Nat}(h:v<p.length):p.getD v 0∈p:=by
 rw[List.getD_eq_getElem?_getD,List.getElem?_eq_getElem h];exact List.getElem_mem h
theorem mem_getD {p:List Int}{x:Int}(h:x∈p):∃v,v<p.length∧p.getD v 0=x:=by
 obtain⟨v,hv,rfl⟩:=List.getElem_of_mem h;exact⟨v,hv,by rw[List.getD_eq_getElem?_getD,List.getElem?_eq_getElem hv];rfl⟩
theorem deepF_no (p:List Int)(f:Nat){v:Int}(h:¬(0≤v∧v<(p.length:Int))):deepF p f v=0:=by
 cases f with
 |zero=>rfl
 |succ f=>unfold deepF;rw[if_neg h]
theorem deepF_le (p:List Int):∀(f:Nat) (v:Int),deepF p f v≤f
 |0,_=>Nat.le_refl _
 |f+1,v=>by
  unfold deepF;have:=deepF_le p f (p.getD v.toNat 0);split<;>omega
theorem dep_le (p:List Int)(v:Int):dep p v≤p.length:=deepF_le _ _ _
theorem deepF_fuel {p:List Int}(h:treeP p):∀(k v:Nat),v≤k→v<p.length→∀f g,v<f→v<g→deepF p f (v:Int)=deepF p g (v:Int)
 |k,v,hk,hv,0,g,hf,hg=>by omega
 |k,v,hk,hv,f+1,0,hf,hg=>by omega
 |k,v,hk,hv,f+1,g+1,hf,hg=>by
  have ht:=h v hv;have e:((v:Int)).toNat=v:=by omega
  have hc:0≤(v:Int)∧(v:Int)<(p.length:Int):=by omega
  conv=>lhs;unfold deepF
  conv=>rhs;unfold deepF
  rw[if_pos hc,if_pos hc,e];by_cases h0:v=0
  ·rw[if_pos h0]at ht
   rw[ht,deepF_no p f (by omega),deepF_no p g (by omega)]
  ·rw[if_neg h0]at ht
   obtain⟨u,hu⟩:∃u:Nat,p.getD v 0=(u:Int):=⟨(p.getD v 0).toNat,by omega⟩;rw[hu]at ht⊢;cases k with
   |zero=>omega
   |succ k=>rw[deepF_fuel h k u (by omega) (by omega) f g (by omega) (by omega)]
theorem dep_root {p:List Int}(h:treeP p)(hn:0<p.length):dep p 0=1:=by
 have ht:=h 0 hn;rw[if_pos rfl]at ht;obtain⟨n,e⟩:∃n,p.length=n+1:=⟨p.length-1,by omega⟩;unfold dep;rw[e];unfold deepF;rw[if_pos (by omega)];show deepF p n (p.getD 0 0)+1=1;rw[ht,deepF_no p n (by omega)]
theorem dep_step {p:List Int}(h:treeP p){v:Nat}(hv:v<p.length)(h0:v≠0):dep p (v:Int)=dep p (p.getD v 0)+1:=by
 have ht:=h v hv;rw[if_neg h0]at ht;obtain⟨n,e⟩:∃n,p.length=n+1:=⟨p.length-1,by omega⟩;have e2:((v:Int)).toNat=v:=by omega
 unfold dep;conv=>lhs;rw[e]
 conv=>lhs;unfold deepF
 rw[if_pos (by omega),e2];obtain⟨u,hu⟩:∃u:Nat,p.getD v 0=(u:Int):=⟨(p.getD v 0).toNat,by omega⟩;rw[hu]at ht⊢;rw[deepF_fuel h u u (Nat.le_refl _) (by omega) n p.length (by omega) (by omega)]
theorem dep_pos {p:List Int}{v:Nat}(hv:v<p.length):1≤dep p (v:Int):=by
 obtain⟨n,e⟩:∃n,p.length=n+1:=⟨p.length-1,by omega⟩;unfold dep;rw[e];unfold deepF;rw[if_pos (by omega)];omega
theorem lvs_ne {p:List Int}(h:treeP p)(hn:0<p.length):lvs p≠ []:=by
 have:((p.length-1:Nat):Int)∈lvs p:=by
  rw[mem_lvs];refine⟨by omega,by omega,fun hm=> ?_⟩;obtain⟨v,hv,e⟩:=mem_getD hm;have ht:=h v hv;by_cases h0:v=0
  ·rw[if_pos h0]at ht;omega
  ·rw[if_neg h0]at ht;omega
 intro e;rw[e]at this;cases this
theorem flat_head {p:List Int}{a:Int}{r:List Int}(h:lvs p=a::r):flatP p↔∀v∈lvs p,dep p v=dep p a∧dep p v≤5:=by
 constructor
 ·intro hf v hv
  exact hf v hv a (by rw[h];simp)
 ·intro hf v hv w hw
  have h1:=hf v hv;have h2:=hf w hw;omega
theorem chk_many {p t:List Int}(h:manyP p t):chk p t=8:=by unfold chk;rw[if_pos h]
theorem chk_tree {p t:List Int}(h:¬manyP p t)(h2:¬treeP p∨¬flatP p):chk p t=9:=by
 unfold chk;rw[if_neg h,if_neg];rintro⟨h3,h4⟩;rcases h2 with h2|h2
 ·exact h2 h3
 ·exact h2 h4
theorem chk_fit {p t:List Int}(h:¬manyP p t)(h2:treeP p)(h3:flatP p):chk p t=if∀x∈t,leafP p x then 0 else 4:=by
 unfold chk;rw[if_neg h,if_pos ⟨h2,h3⟩]
theorem chk_ok {p t:List Int}(h:chk p t=0):¬manyP p t∧treeP p∧flatP p∧∀x∈t,leafP p x:=by
 unfold chk at h;split at h
 ·omega
 rename_i h1;split at h
 ·rename_i h2
  split at h
  ·rename_i h3
   exact⟨h1,h2.1,h2.2,h3⟩
  ·omega
 ·omega
def rngI (a b:Nat):List Int:=(List.range' a (b-a)).map fun v:Nat=>(v:Int)
def grow (l:List Int)(k:Nat):List Int:=l.flatMap (List.replicate k)
def fin (p t:List Int):(List Int×List Int)×Int:=if chk p t=0 then((p,t),0)else(([],[]),chk p t)
def evB (lim:Nat):List Int→List Int→Nat→Option (List Int×Nat)
 |[],p,f=>some (p,f)
 |n::r,p,f=>if lim<(p++grow (rngI f p.length) n.toNat).length then none else evB lim r (p++grow (rngI f p.length) n.toNat) p.length
theorem evB_len {lim:Nat}:∀(parts p:List Int) (f:Nat) (q:List Int) (g:Nat),evB lim parts p f=some (q,g)→p.length≤q.length
 |[],p,f,q,g,h=>by injection h with h;injection h with h1 h2;subst h1;omega
 |n::r,p,f,q,g,h=>by
  unfold evB at h;split at h
  ·cases h
  ·have:=evB_len r _ _ q g h
   rw[List.length_append]at this;omega
theorem evB_33:∀(parts p:List Int) (f:Nat),p.length≤32→(evB 33 parts p f=none→evB 32 parts p f=none)∧
 ∀q g,evB 33 parts p f=some (q,g)→(q.length≤32∧evB 32 parts p f=some (q,g))∨(q.length=33∧evB 32 parts p f=none)
 |[],p,f,hp=>⟨fun h=>h,fun q g h=> .inl ⟨by injection h with h;injection h with h1 _;subst h1;exact hp,h⟩⟩
 |n::r,p,f,hp=>by
  unfold evB;by_cases h1:33<(p++grow (rngI f p.length) n.toNat).length
  ·rw[if_pos h1,if_pos (by omega)]
   exact⟨fun h=>h,fun q g h=>by cases h⟩
  ·rw[if_neg h1]
   by_cases h2:32<(p++grow (rngI f p.length) n.toNat).length
   ·rw[if_pos h2]
    refine⟨fun _=>rfl,fun q g h=> .inr ⟨?_,rfl⟩⟩;have h3:=evB_len _ _ _ _ _ h;have h4:q.length≤33:=evB_lim r _ _ q g h (by omega);omega
   ·rw[if_neg h2]
    exact evB_33 r _ _ (by omega)
where
 evB_lim:∀(parts p:List Int) (f:Nat) (q:List Int) (g:Nat),evB 33 parts p f=some (q,g)→p.length≤33→q.length≤33
  |[],p,f,q,g,h,hp=>by injection h with h;injection h with h1 h2;subst h1;exact hp
  |n::r,p,f,q,g,h,hp=>by
   unfold evB at h;split at h
   ·cases h
   ·exact evB_lim r _ _ q g h (by omega)
end Go.Proofs.YtfmiioddhpkdkaaGreat.Tp
namespace Go.Proofs.YtfmiioddhpkdkaaGreat.Tp
open Go.RowKit Go.Proofs.YtfmiioddhpkdkaaGreat.Li Go.Proofs.YtfmiioddhpkdkaaGreat.De Go.Proofs.YtfmiioddhpkdkaaGreat.Ara
theorem sl_int {w:World}{Bd:Nat}{A:Option Addr}{ns:List Int}(h:Sl w Bd A (ns.flatMap decI)){k:Nat}(hk:k<ns.length):∃b off,A=some ⟨b,off,none⟩∧b<Bd∧∀j (h:j<ns.length),w.cell? ⟨b,off+j,none⟩=some (.int .i64 ns[j]):=by
 rw[flatI]at h;obtain⟨b,off,h1,h2,h3⟩:=h.at_ (by rw[List.length_map];omega);refine⟨b,off,h1,h2,fun j hj=> ?_⟩;have:=h3 j (by rw[List.length_map];exact hj);rw[List.getElem_map]at this;exact this
theorem sl_g {w:World}{Bd:Nat}{A:Option Addr}{ns:List Int}(h:Sl w Bd A (ns.flatMap decI))(hk:0<ns.length):∃b off,A=some ⟨b,off,none⟩∧b<Bd∧∀j,j<ns.length→w.cell? ⟨b,off+j,none⟩=some (.int .i64 (ns.getD j 0)):=by
 obtain⟨b,off,h1,h2,h3⟩:=sl_int h hk;refine⟨b,off,h1,h2,fun j hj=> ?_⟩;rw[h3 j hj,List.getD_eq_getElem?_getD,List.getElem?_eq_getElem hj];rfl
def okV (p:List Int)(v:Nat):Prop:=if v=0 then p.getD v 0= -1 else 0≤p.getD v 0∧p.getD v 0<(v:Int)
theorem okV_zero {p:List Int}{v:Nat}(h:v=0):okV p v↔p.getD v 0= -1:=by unfold okV;rw[if_pos h]
theorem okV_pos {p:List Int}{v:Nat}(h:¬v=0):okV p v↔0≤p.getD v 0∧p.getD v 0<(v:Int):=by unfold okV;rw[if_neg h]
theorem tree_iff (p:List Int):treeP p↔∀v,v<p.length→okV p v:=Iff.rfl
set_option maxRecDepth 100000 in
theorem tree_any (p:List Int)(A:Option Addr)(cap:Nat)(w:World)(hm:p.length≤1000)(hs:Sl w w.heap.size A (p.flatMap decI)):
 Calls Tryz.prog 63 #[.slice A p.length cap] w fun e w'=>e= .returned (.bool (decide (treeP p)))∧w'=w:=by
 have HF:=Lib.hid (fun j hj (h:¬okV p j)=>(decide_eq_false (fun ht=>h ((tree_iff p).1 ht j hj)):decide (treeP p)=false));have HT:=Lib.hid (fun h:∀v,v<p.length→okV p v=>(decide_eq_true ((tree_iff p).2 h):decide (treeP p)=true));go_enter Tryz.func63,Tryz.ntmps63;go_wp2_with fail;go_loopw [7] (fun i wr=>∃j:Nat,j≤p.length∧i= .int .i64 (j:Int)∧(∀v,v<j→okV p v)∧wr=w) (fun i _=>p.length-(intOf i).toNat)
 case atStart=>exact⟨0,Nat.zero_le _,rfl,fun v hv=>absurd hv (Nat.not_lt_zero v),rfl⟩
 case round=>
  obtain⟨j,hj,rfl,hgood,rfl⟩:=hrel;by_cases hlt:j<p.length
  ·obtain⟨b,off,rfl,hbb,hcell⟩:=sl_g hs (by omega)
   have h0:=hcell j hlt;have i1:(j:Int)<(p.length:Int):=by omega
   have HBAD:=Lib.hid (HF.out j hlt)
   have HGOOD:=Lib.hid (show okV p j→∀v,v<j+1→okV p v from fun h v hv=>by
    by_cases e:v=j
    ·subst e;exact h
    ·exact hgood v (by omega))
   clear hcell HF HT hgood hs;by_cases z:j=0
   ·rw[okV_zero z]at HBAD HGOOD
    generalize p.getD j 0=x at*;have q0:((j:Int)==0)=true:=ibeq (by omega);have q2:¬(0:Int)<(j:Int):=by omega
    clear z;by_cases h1:x= -1
    ·have q1:=ibne_no h1
     have HN:=Lib.hid (HGOOD.out h1);clear HBAD HGOOD;go_wp2_with fail;go_roundw
     case rel=>exact⟨j+1,by omega,by go_num,HN.out,trivial⟩
     case measure=>simp[intOf];omega
    ·have q1:=ibne h1
     have HN:=Lib.hid (HBAD.out h1);clear HBAD HGOOD;go_wp2_with fail;go_ret;exact⟨by rw[HN.out];rfl,rfl⟩
   ·rw[okV_pos z]at HBAD HGOOD
    generalize p.getD j 0=x at*;have q0:((j:Int)==0)=false:=ibeq_no (by omega);have q2:(0:Int)<(j:Int):=by omega
    clear z;by_cases h1:x<0
    ·have h2:¬(0≤x∧x<(j:Int)):=by omega
     have HN:=Lib.hid (HBAD.out h2);clear HBAD HGOOD;go_wp2_with fail;go_ret;exact⟨by rw[HN.out];rfl,rfl⟩
    ·by_cases h3:(j:Int)≤x
     ·have h2:¬(0≤x∧x<(j:Int)):=by omega
      have HN:=Lib.hid (HBAD.out h2);clear HBAD HGOOD;go_wp2_with fail;go_ret;exact⟨by rw[HN.out];rfl,rfl⟩
     ·have h2:0≤x∧x<(j:Int):=by omega
      have HN:=Lib.hid (HGOOD.out h2);clear HBAD HGOOD;go_wp2_with fail;go_roundw
      case rel=>exact⟨j+1,by omega,by go_num,HN.out,trivial⟩
      case measure=>simp[intOf];omega
  ·obtain rfl:j=p.length:=by omega
   have HN:=Lib.hid (HT.out hgood);clear HT HF hgood hs;go_wp2_with fail;go_ret;exact⟨by rw[HN.out];rfl,rfl⟩
set_option maxRecDepth 100000 in
theorem has_any (ns:List Int)(A:Option Addr)(cap:Nat)(x:Int)(w:World)(hm:ns.length≤9223372036854775807)(hs:Sl w w.heap.size A (ns.flatMap decI)):
 Calls Tryz.prog 60 #[.slice A ns.length cap,.int .i64 x] w fun e w'=>e= .returned (.bool (decide (x∈ns)))∧w'=w:=by
 have HT:=Lib.hid (fun j (hj:j<ns.length) (h:ns.getD j 0=x)=>(decide_eq_true (by rw[←h];exact getD_mem hj):decide (x∈ns)=true))
 have HF:=Lib.hid (fun h:∀v,v<ns.length→ns.getD v 0≠x=>(decide_eq_false (fun hx=>by
  obtain⟨v,hv,e⟩:=mem_getD hx;exact h v hv e):decide (x∈ns)=false))
 go_enter Tryz.func60,Tryz.ntmps60;go_wp2_with fail;go_loopw [5] (fun i wr=>∃j:Nat,j≤ns.length∧i= .int .i64 (j:Int)∧(∀v,v<j→ns.getD v 0≠x)∧wr=w) (fun i _=>ns.length-(intOf i).toNat)
 case atStart=>exact⟨0,Nat.zero_le _,rfl,fun v hv=>absurd hv (Nat.not_lt_zero v),rfl⟩
 case round=>
  obtain⟨j,hj,rfl,hgood,rfl⟩:=hrel;by_cases hlt:j<ns.length
  ·obtain⟨b,off,rfl,hbb,hcell⟩:=sl_g hs (by omega)
   have h0:=hcell j hlt;have i1:(j:Int)<(ns.length:Int):=by omega
   have HT:=Lib.hid (HT.out j hlt)
   have HGOOD:=Lib.hid (show ns.getD j 0≠x→∀v,v<j+1→ns.getD v 0≠x from fun h v hv=>by
    by_cases e:v=j
    ·subst e;exact h
    ·exact hgood v (by omega))
   clear hcell HF hgood hs;generalize ns.getD j 0=y at*;by_cases h1:y=x
   ·have q:=ibeq h1
    have HN:=Lib.hid (HT.out h1);clear h1;go_wp2_with fail;go_ret;exact⟨by rw[HN.out];rfl,rfl⟩
   ·have q:=ibeq_no h1
    have HN:=Lib.hid (HGOOD.out h1);clear h1;go_wp2_with fail;go_roundw
    case rel=>exact⟨j+1,by omega,by go_num,HN.out,trivial⟩
    case measure=>simp[intOf];omega
  ·obtain rfl:j=ns.length:=by omega
   have HN:=Lib.hid (HF.out hgood);clear HT HF hgood hs;have i1:¬(ns.length:Int)<(ns.length:Int):=by omega
   go_wp2_with fail;go_ret;exact⟨by rw[HN.out];rfl,rfl⟩
theorem leaf_eq (p:List Int)(v:Int):decide (leafP p v)=(decide (0≤v)&&decide (v<(p.length:Int))&& !decide (v∈p)):=by
 unfold leafP;by_cases h1:0≤v<;>by_cases h2:v<(p.length:Int)<;>by_cases h3:v∈p<;>simp[h1,h2,h3]
set_option maxRecDepth 100000 in
theorem leaf_any (p:List Int)(A:Option Addr)(cap:Nat)(v:Int)(w:World)(hm:p.length≤1000)(hs:Sl w w.heap.size A (p.flatMap decI)):
 Calls Tryz.prog 40 #[.slice A p.length cap,.int .i64 v] w fun e w'=>e= .returned (.bool (decide (leafP p v)))∧w'=w:=by
 have HH:=Lib.hid (fun W (h:Sl W W.heap.size A (p.flatMap decI))=>has_any p A cap v W (by omega) h);have HE:=Lib.hid (leaf_eq p v);by_cases h0:0≤v
 ·by_cases h1:v<(p.length:Int)
  ·have HN:=Lib.hid (show decide (leafP p v)= !decide (v∈p) by rw[HE.out,decide_eq_true h0,decide_eq_true h1];rfl)
   generalize decide (v∈p)=b at*;go_enter Tryz.func40,Tryz.ntmps40;go_wp2_with fail;refine(HH.out _ hs).mono ?_;rintro e wx ⟨rfl,hwx⟩;obtain rfl:=hwx.symm;go_wp2_with fail;go_ret;exact⟨by rw[HN.out];rfl,rfl⟩
  ·have HN:=Lib.hid (show decide (leafP p v)=false by rw[HE.out,decide_eq_false h1];simp)
   go_enter Tryz.func40,Tryz.ntmps40;go_wp2_with fail;go_ret;exact⟨by rw[HN.out];rfl,rfl⟩
 ·have HN:=Lib.hid (show decide (leafP p v)=false by rw[HE.out,decide_eq_false h0];simp)
  go_enter Tryz.func40,Tryz.ntmps40;go_wp2_with fail;go_ret;exact⟨by rw[HN.out];rfl,rfl⟩
theorem deepF_step (p:List Int)(k:Nat)(v:Int)(h:0≤v)(h2:v<(p.length:Int)):deepF p (k+1) v=deepF p k (p.getD v.toNat 0)+1:=by
 conv=>lhs;unfold deepF
 rw[if_pos ⟨h,h2⟩]
set_option maxRecDepth 100000 in
theorem deep_any (p:List Int)(A:Option Addr)(cap:Nat)(v0:Int)(w:World)(hm:p.length≤1000)(hs:Sl w w.heap.size A (p.flatMap decI)):
 Calls Tryz.prog 41 #[.slice A p.length cap,.int .i64 v0] w fun e w'=>e= .returned (.int .i64 (dep p v0:Int))∧w'=w:=by
 obtain⟨tgt,ht⟩:∃t,dep p v0=t:=⟨_,rfl⟩;rw[ht];have HT:=Lib.hid ht;clear ht;go_enter Tryz.func41,Tryz.ntmps41;go_wp2_with fail;go_loopw [1,5,6] (fun x c i wr=>∃(j:Nat) (v:Int) (n:Nat),j≤p.length∧x= .int .i64 v∧c= .int .i64 (n:Int)∧i= .int .i64 (j:Int)∧n≤j∧n+deepF p (p.length-j) v=tgt∧wr=w) (fun _ _ i _=>p.length-(intOf i).toNat)
 case atStart=>exact⟨0,v0,0,Nat.zero_le _,rfl,rfl,rfl,Nat.le_refl _,by rw[←HT.out];show 0+deepF p (p.length-0) v0=_;rw[Nat.zero_add];rfl,rfl⟩
 case round=>
  obtain⟨j,v,n,hj,rfl,rfl,rfl,hnj,hrun,rfl⟩:=hrel;by_cases hlt:j<p.length
  ·have i1:(j:Int)<(p.length:Int):=by omega
   by_cases h0:0≤v
   ·by_cases h1:v<(p.length:Int)
    ·obtain⟨u,rfl⟩:=Int.eq_ofNat_of_zero_le h0
     obtain⟨b,off,rfl,hbb,hcell⟩:=sl_g hs (by omega);have c0:=hcell u (by omega);rw[show p.length-j=(p.length-(j+1))+1 by omega,deepF_step p _ _ h0 h1,Int.toNat_natCast]at hrun;have HN:=Lib.hid hrun;clear hcell hrun;generalize p.getD u 0=y at*;go_wp2_with fail;go_roundw
     case rel=>exact⟨j+1,y,n+1,by omega,rfl,by go_num,by go_num,by omega,by have:=HN.out;omega,trivial⟩
     case measure=>simp[intOf];omega
    ·rw[deepF_no p _ (by omega)]at hrun
     have HN:=Lib.hid hrun;clear hrun;go_wp2_with fail;go_ret;exact⟨by rw[←HN.out];rfl,rfl⟩
   ·rw[deepF_no p _ (by omega)]at hrun
    have HN:=Lib.hid hrun;clear hrun;go_wp2_with fail;go_ret;exact⟨by rw[←HN.out];rfl,rfl⟩
  ·obtain rfl:j=p.length:=by omega
   rw[Nat.sub_self]at hrun;have HN:=Lib.hid hrun;clear hrun;have i1:¬(p.length:Int)<(p.length:Int):=by omega
   go_wp2_with fail;go_ret;exact⟨by rw[←HN.out];rfl,rfl⟩
end Go.Proofs.YtfmiioddhpkdkaaGreat.Tp
namespace Go.Proofs.YtfmiioddhpkdkaaGreat.Tp
open Go.RowKit Go.Proofs.YtfmiioddhpkdkaaGreat.Li Go.Proofs.YtfmiioddhpkdkaaGreat.De Go.Proofs.YtfmiioddhpkdkaaGreat.Ara
theorem infoB:(Tryz.prog.info? 4).map (fun i=>(i.zero,i.size,i.bytes))=some (some (.bool false),1,1):=by kernel_rfl
def bls (l:List Bool):Array Value:=(l.map Value.bool).toArray
def its (l:List Int):Array Value:=(l.map (Value.int .i64)).toArray
theorem made_bool (n:Nat):madeCells #[.bool false] n=bls (List.replicate n false):=by
 apply Array.ext
 ·simp[madeCells,bls]
 ·intro i h1 h2
  simp[madeCells,bls,Nat.mod_one]
theorem made_int (n:Nat):madeCells #[.int .i64 0] n=its (List.replicate n 0):=by
 apply Array.ext
 ·simp[madeCells,its]
 ·intro i h1 h2
  simp[madeCells,its,Nat.mod_one]
theorem make_bools (n:Nat)(h:n≤65536)(W:World):(Instr.makeSlice 170 (.int .i64 (n:Int)) (.int .i64 (n:Int))).run Tryz.prog W= .ok (.slice (some ⟨W.heap.size,0,none⟩) n n) (W.alloc (.cells (bls (List.replicate n false)) 4)):=by
 rw[run_make_row' (P:=Tryz.prog) 170 4 (.bool false) 1 Tryz.underlying170 infoB rfl .i64 .i64 n (by omega) (by omega) W,made_bool]
theorem make_ints (n:Nat)(h:n≤65536)(W:World):(Instr.makeSlice 22 (.int .i64 (n:Int)) (.int .i64 (n:Int))).run Tryz.prog W= .ok (.slice (some ⟨W.heap.size,0,none⟩) n n) (W.alloc (.cells (its (List.replicate n 0)) 3)):=by
 rw[run_make_row' (P:=Tryz.prog) 22 3 (.int .i64 0) 8 Tryz.underlying22 infoI rfl .i64 .i64 n (by omega) (by omega) W,made_int]
theorem bls_cell {w:World}{g:Nat}{l:List Bool}(h:w.heap[g]? =some (.cells (bls l) 4 (0,0))){i:Nat}(hi:i<l.length):w.cell? ⟨g,i,none⟩=some (.bool (l.getD i false)):=by
 rw[blk_cell h i (by simpa[bls]using hi)];simp[bls,hi]
theorem its_cell {w:World}{g:Nat}{l:List Int}(h:w.heap[g]? =some (.cells (its l) 3 (0,0))){i:Nat}(hi:i<l.length):w.cell? ⟨g,i,none⟩=some (.int .i64 (l.getD i 0)):=by
 rw[blk_cell h i (by simpa[its]using hi)];simp[its,hi]
theorem bls_set {w:World}{g:Nat}{l:List Bool}(h:w.heap[g]? =some (.cells (bls l) 4 (0,0)))(i:Nat)(b:Bool):(w.setCell ⟨g,i,none⟩ (.bool b)).heap[g]? =some (.cells (bls (l.set i b)) 4 (0,0)):=by
 rw[blk_set h i (.bool b)];simp[bls,List.map_set]
theorem its_set {w:World}{g:Nat}{l:List Int}(h:w.heap[g]? =some (.cells (its l) 3 (0,0)))(i:Nat)(b:Int):(w.setCell ⟨g,i,none⟩ (.int .i64 b)).heap[g]? =some (.cells (its (l.set i b)) 3 (0,0)):=by
 rw[blk_set h i (.int .i64 b)];simp[its,List.map_set]
def inB (p:List Int)(k:Nat):List Bool:=(List.range p.length).map fun v:Nat=>decide ((v:Int)∈p.take k)
theorem inB_len (p:List Int)(k:Nat):(inB p k).length=p.length:=by simp[inB]
theorem inB_zero (p:List Int):inB p 0=List.replicate p.length false:=by
 apply List.ext_getElem
 ·simp[inB]
 ·intro i h1 h2;simp[inB]
theorem take_g {p:List Int}{k:Nat}(hk:k<p.length):p.take (k+1)=p.take k++ [p.getD k 0]:=by
 rw[List.take_succ_eq_append_getElem hk,List.getD_eq_getElem?_getD,List.getElem?_eq_getElem hk];rfl
theorem inB_neg {p:List Int}{k:Nat}(hk:k<p.length)(h:p.getD k 0<0):inB p (k+1)=inB p k:=by
 unfold inB;rw[take_g hk];apply List.map_congr_left;intro v hv;have:¬((v:Int)=p.getD k 0):=by omega
 generalize p.getD k 0=y at*;simp[this]
theorem inB_set {p:List Int}{k u:Nat}(hk:k<p.length)(h:p.getD k 0=(u:Int)):inB p (k+1)=(inB p k).set u true:=by
 unfold inB;rw[take_g hk,h];apply List.ext_getElem
 ·simp
 ·intro i h1 h2
  simp only[List.getElem_map,List.getElem_range,List.getElem_set,List.mem_append,List.mem_singleton];by_cases e:u=i
  ·subst e;simp
  ·have:¬((i:Int)=(u:Int)):=by omega
   simp[e,this]
theorem inB_at {p:List Int}{v:Nat}(h:v<p.length):(inB p p.length).getD v false=decide ((v:Int)∈p):=by
 unfold inB;rw[List.take_length,List.getD_eq_getElem?_getD];simp[h]
set_option maxRecDepth 100000 in
set_option maxHeartbeats 2000000 in
theorem inner_any (p:List Int)(A:Option Addr)(cap:Nat)(w:World)(hm:p.length≤1000)(ht:treeP p)(hs:Sl w w.heap.size A (p.flatMap decI)):
 Calls Tryz.prog 76 #[.slice A p.length cap] w fun e w'=>e= .returned (.slice (some ⟨w.heap.size,0,none⟩) p.length p.length)∧w'.heap[w.heap.size]? =some (.cells (bls (inB p p.length)) 4 (0,0))∧Below w.heap.size w w':=by
 have hmk:=fun W=>make_bools p.length (by omega) W;have HT:=Lib.hid ht;clear ht;go_enter Tryz.func76,Tryz.ntmps76;go_wp2_with fail;clear hmk;go_loopw [11] (fun i wr=>∃k:Nat,k≤p.length∧i= .int .i64 (k:Int)∧wr.heap[w.heap.size]? =some (.cells (bls (inB p k)) 4 (0,0))∧Below w.heap.size w wr) (fun i _=>p.length-(intOf i).toNat)
 case atStart=>exact⟨0,Nat.zero_le _,rfl,by rw[inB_zero];exact blk_new _ _,below_new _ _⟩
 case round=>
  obtain⟨k,hk,rfl,hblk,hb⟩:=hrel;have HB:=Lib.hid hb;by_cases hlt:k<p.length
  ·obtain⟨b,off,rfl,hbb,hcell⟩:=sl_g (hs.below hb) (by omega)
   have h0:=hcell k hlt;have i1:(k:Int)<(p.length:Int):=by omega
   have ht:=HT.out k hlt;have HN:=Lib.hid (fun h=>inB_neg hlt h);have HP:=Lib.hid (fun u h=>inB_set (u:=u) hlt h);have hln:=inB_len p k;have hlb:=hb.size;clear hcell hb hs;by_cases h1:p.getD k 0<0
   ·have HN2:=Lib.hid (HN.out h1)
    have i2:¬0≤p.getD k 0:=by omega
    clear HP ht HN;generalize p.getD k 0=y at*;have HK:=Lib.hid hblk;clear hblk;go_wp2_with fail;go_roundw
    case rel=>exact⟨k+1,by omega,by go_num,by rw[HN2.out];exact HK.out,HB.out⟩
    case measure=>simp[intOf];omega
   ·obtain⟨u,hu⟩:∃u:Nat,p.getD k 0=(u:Int):=⟨(p.getD k 0).toNat,by omega⟩
    have hun:u<p.length:=by
     rw[hu]at ht;split at ht<;>omega
    have HP2:=Lib.hid (HP.out u hu);clear HN ht HP;rw[hu]at h0;generalize p.getD k 0=y at*;subst hu;have i2:(0:Int)≤(u:Int):=by omega
    have c0:=bls_cell hblk (i:=u) (by omega);have f0:=blk_free hblk u;have HS:=Lib.hid (bls_set hblk u true);clear hblk;generalize inB p k=bb at*;go_wp2_with fail;go_roundw
    case rel=>exact⟨k+1,by omega,by go_num,by rw[HP2.out];exact HS.out,HB.out.setCell (p:=⟨w.heap.size,u,none⟩) (Nat.le_refl _) _⟩
    case measure=>simp[intOf];omega
  ·obtain rfl:k=p.length:=by omega
   have i1:¬(p.length:Int)<(p.length:Int):=by omega
   have HK:=Lib.hid hblk;clear hblk hb;go_wp2_with fail;go_ret;exact⟨rfl,HK.out,HB.out⟩
def lvB (p:List Int)(k:Nat):List Int:=(List.range p.length).map fun v:Nat=>if v<k then(dep p (v:Int):Int)else 0
theorem lvB_len (p:List Int)(k:Nat):(lvB p k).length=p.length:=by simp[lvB]
theorem lvB_zero (p:List Int):lvB p 0=List.replicate p.length 0:=by
 apply List.ext_getElem
 ·simp[lvB]
 ·intro i h1 h2;simp[lvB]
theorem lvB_set (p:List Int)(k:Nat):lvB p (k+1)=(lvB p k).set k (dep p (k:Int):Int):=by
 unfold lvB;apply List.ext_getElem
 ·simp
 ·intro i h1 h2
  simp only[List.getElem_map,List.getElem_range,List.getElem_set];by_cases e:k=i
  ·subst e;rw[if_pos (by omega),if_pos rfl]
  ·rw[if_neg e]
   by_cases e2:i<k
   ·rw[if_pos (by omega),if_pos e2]
   ·rw[if_neg (by omega),if_neg e2]
theorem lvB_at {p:List Int}{k v:Nat}(h:v<p.length)(hk:v<k):(lvB p k).getD v 0=(dep p (v:Int):Int):=by
 unfold lvB;rw[List.getD_eq_getElem?_getD];simp[h,hk]
set_option maxRecDepth 100000 in
set_option maxHeartbeats 2000000 in
theorem levels_any (p:List Int)(A:Option Addr)(cap:Nat)(w:World)(hm:p.length≤1000)(ht:treeP p)(hs:Sl w w.heap.size A (p.flatMap decI)):
 Calls Tryz.prog 65 #[.slice A p.length cap] w fun e w'=>e= .returned (.slice (some ⟨w.heap.size,0,none⟩) p.length p.length)∧w'.heap[w.heap.size]? =some (.cells (its (lvB p p.length)) 3 (0,0))∧Below w.heap.size w w':=by
 have hmk:=fun W=>make_ints p.length (by omega) W;have HT:=Lib.hid ht;clear ht;go_enter Tryz.func65,Tryz.ntmps65;go_wp2_with fail;clear hmk;go_loopw [11] (fun i wr=>∃k:Nat,k≤p.length∧i= .int .i64 (k:Int)∧wr.heap[w.heap.size]? =some (.cells (its (lvB p k)) 3 (0,0))∧Below w.heap.size w wr) (fun i _=>p.length-(intOf i).toNat)
 case atStart=>exact⟨0,Nat.zero_le _,rfl,by rw[lvB_zero];exact blk_new _ _,below_new _ _⟩
 case round=>
  obtain⟨k,hk,rfl,hblk,hb⟩:=hrel;have HB:=Lib.hid hb;by_cases hlt:k<p.length
  ·obtain⟨b,off,rfl,hbb,hcell⟩:=sl_g (hs.below hb) (by omega)
   have h0:=hcell k hlt;have i1:(k:Int)<(p.length:Int):=by omega
   have ht:=HT.out k hlt;have hln:=lvB_len p k;have hlb:=hb.size;have HL:=Lib.hid (lvB_set p k);have f0:=blk_free hblk k;have hset:=its_set hblk k 1;have HS:=Lib.hid hset;have f1:=blk_free hset k;clear hcell hb hs;by_cases z:k=0
   ·rw[if_pos z]at ht
    have hd:dep p (k:Int)=1:=by rw[z];exact dep_root HT.out (by omega)
    rw[hd]at HL;rw[ht]at h0;have c0:=its_cell hblk (i:=k) (by omega);clear z hset hblk ht hd f1;generalize(lvB p k).getD k 0=y0 at*;go_wp2_with fail;go_roundw
    case rel=>exact⟨k+1,by omega,by go_num,by rw[HL.out];exact HS.out,HB.out.setCell (p:=⟨w.heap.size,k,none⟩) (Nat.le_refl _) _⟩
    case measure=>simp[intOf];omega
   ·rw[if_neg z]at ht
    obtain⟨u,hu⟩:∃u:Nat,p.getD k 0=(u:Int):=⟨(p.getD k 0).toNat,by omega⟩;have hd:=dep_step HT.out hlt z;have hle:=dep_le p (u:Int);rw[hu]at ht h0 hd;rw[hd]at HL;have c0:=its_cell hblk (i:=k) (by omega);have c1:=its_cell hset (i:=u) (by rw[List.length_set];omega)
    have e1:((lvB p k).set k 1).getD u 0=(dep p (u:Int):Int):=by
     rw[←lvB_at (p:=p) (k:=k) (v:=u) (by omega) (by omega)];simp only[List.getD_eq_getElem?_getD];rw[List.getElem?_set_ne (by omega)]
    rw[e1]at c1;have HS2:=Lib.hid (its_set hset k ((dep p (u:Int):Int)+1));have i2:(0:Int)≤(u:Int):=by omega
    have hun:u<p.length:=by omega
    clear z hset hblk ht hd e1;generalize(lvB p k).getD k 0=y0 at*;generalize dep p (u:Int)=d at*;go_wp2_with fail;go_roundw
    case rel=>exact⟨k+1,by omega,by go_num,by rw[HL.out];have:=HS2.out;rw[List.set_set]at this;exact this,(HB.out.setCell (p:=⟨w.heap.size,k,none⟩) (Nat.le_refl _) _).setCell (p:=⟨w.heap.size,k,none⟩) (Nat.le_refl _) _⟩
    case measure=>simp[intOf];omega
  ·obtain rfl:k=p.length:=by omega
   have i1:¬(p.length:Int)<(p.length:Int):=by omega
   have HK:=Lib.hid hblk;clear hblk hb;go_wp2_with fail;go_ret;exact⟨rfl,HK.out,HB.out⟩
theorem frame22 {a:Act}(h:a.tmps.size=22)(hd:a.defers=[]):∃u:Nat→Value,a={tmps:= #[u 0,u 1,u 2,u 3,u 4,u 5,u 6,u 7,u 8,u 9,u 10,u 11,u 12,u 13,u 14,u 15,u 16,u 17,u 18,u 19,u 20,u 21],defers:=[]}∧∀n,a.tmps.getD n undef=u n:=by
 refine⟨fun n=>a.tmps.getD n undef,?_,fun _=>rfl⟩;have h1:=arr_lit a.tmps h;cases a with
 |mk t d=>
  simp only at hd h1;subst hd;congr 1
def LvJ (p:List Int)(w0 w1:World)(a:Act)(w':World):Prop:=
 a.tmps.size=22∧a.defers=[]∧a.tmps.getD 7 undef= .slice (some ⟨w0.heap.size,0,none⟩) p.length p.length∧a.tmps.getD 8 undef= .int .i64 (p.length:Int)∧∃(k:Nat) (v:Value),a.tmps.getD 3 undef=v∧a.tmps.getD 9 undef= .int .i64 (k:Int)∧k≤p.length∧
  w'.ownsRow w1.heap.size 3 1 v (lvK p k).length ((lvK p k).map (Value.int .i64))∧Below w1.heap.size w1 w'
theorem own_base {w:World}{base base':Nat}{e:TypeId}{size:Nat}{v:Value}{n:Nat}{xs:List Value}(h:w.ownsRow base e size v n xs)(hb:base'≤base):w.ownsRow base' e size v n xs:=
 ⟨h.1,h.2.imp id fun⟨g,cap,cur,a,b,r⟩=>⟨g,cap,cur,a,Nat.le_trans hb b,r⟩⟩
set_option maxRecDepth 100000 in
set_option maxHeartbeats 4000000 in
theorem leaves_own (p:List Int)(A:Option Addr)(cap:Nat)(w:World)(hm:p.length≤1000)(ht:treeP p)(hs:Sl w w.heap.size A (p.flatMap decI)):
 Calls Tryz.prog 64 #[.slice A p.length cap] w fun e w'=>∃v,e= .returned v∧w'.ownsRow w.heap.size 3 1 v (lvs p).length ((lvs p).map (Value.int .i64))∧Below w.heap.size w w':=by
 have HI:=Lib.hid (inner_any p A cap w hm ht hs);clear ht hs;go_enter Tryz.func64,Tryz.ntmps64;go_wp2_with fail;refine HI.out.mono ?_;rintro e w1 ⟨rfl,hblk,b1⟩;have HB1:=Lib.hid b1;have HBLK:=Lib.hid hblk;have hl0:=lt_of_blk hblk;clear b1 hblk;go_wp2_with fail;refine wp_loop (LvJ p w w1) (fun a' _=>p.length-(intOf (a'.tmps.getD 9 undef)).toNat) ?_ ?_
 ·exact⟨rfl,rfl,rfl,rfl,0,_,rfl,rfl,Nat.zero_le _,World.ownsRow_nil _ _ _ _,Below.refl _ _⟩
 ·rintro a' w' ⟨hsz,hdf,s7,s8,k,v,s3,s9,hk,hown,hbel⟩
  obtain⟨u,rfl,hu⟩:=frame22 hsz hdf;rw[hu]at s3 s7 s8 s9;simp only[s3,s7,s8,s9];clear hsz hdf s3 s7 s8 s9 hu;have HB:=Lib.hid hbel;by_cases hlt:k<p.length
  ·have i1:(k:Int)<(p.length:Int):=by omega
   have hblk:=(hbel.block w.heap.size hl0).trans HBLK.out;have c0:=bls_cell hblk (i:=k) (by rw[inB_len];exact hlt);rw[inB_at hlt]at c0;have HK:=Lib.hid (lvK_succ p k);have hll:=lvK_len p k;have hwq:=hbel.size;clear hblk hbel;by_cases hin:(k:Int)∈p
   ·rw[if_pos hin]at HK
    rw[decide_eq_true hin]at c0;have HO:=Lib.hid hown;clear hin hown;go_wp2_with fail;go_roundw
    case rel=>exact⟨rfl,rfl,rfl,rfl,k+1,v,rfl,by go_num,by omega,by rw[HK.out];exact HO.out,HB.out⟩
    case measure=>simp[intOf];omega
   ·rw[if_neg hin]at HK
    rw[decide_eq_false hin]at c0;have hown1:=hown;clear hin hown;go_wp2_with(at_builtin;refine wpList_append1 (.tmp 16) (.tmp 18) 22 3 _ 1 8 rfl rfl Tryz.underlying22 infoI rfl (by decide) w1.heap.size _ _ _ _ _ _ _ _ hown1 rfl rfl ?cgL rfl ?d1L ?d2L ?d3L ?d4L ?ckL;case' ckL=>intro v' w2 hown2 hb2 _)
    case cgL=>first|rfl|simp
    case d1L=>simp[Value.oneCell']
    case d2L=>simp only[maxLen];omega
    case d3L=>omega
    case d4L=>omega
    go_wp2_with fail;go_roundw
    case rel=>exact⟨rfl,rfl,rfl,rfl,k+1,v',rfl,by go_num,by omega,by rw[HK.out];simpa using hown2,HB.out.trans hb2⟩
    case measure=>simp[intOf];omega
  ·obtain rfl:k=p.length:=by omega
   have i1:¬(p.length:Int)<(p.length:Int):=by omega
   have HO:=Lib.hid (own_base hown HB1.out.size);clear hown hbel;go_wp2_with fail;go_ret;exact⟨v,rfl,HO.out,nx HB1.out HB.out⟩
theorem leaves_row (p:List Int)(A:Option Addr)(cap:Nat)(w:World)(hm:p.length≤1000)(hn:0<p.length)(ht:treeP p)(hs:Sl w w.heap.size A (p.flatMap decI)):
 Calls Tryz.prog 64 #[.slice A p.length cap] w fun e w'=>∃g c,e= .returned (.slice (some ⟨g,0,none⟩) (lvs p).length c)∧w.heap.size≤g∧g<w'.heap.size∧(∀j,j<(lvs p).length→w'.cell? ⟨g,j,none⟩=some (.int .i64 ((lvs p).getD j 0)))∧Below w.heap.size w w':=by
 refine(leaves_own p A cap w hm ht hs).mono ?_;rintro e w' ⟨v,rfl,h1,h2⟩;have hl:0<(lvs p).length:=List.length_pos_iff.2 (lvs_ne ht hn);obtain⟨A2,c2,rfl,_,_,hs2⟩:=own_slice h1;have hs3:Sl w' w'.heap.size A2 ((lvs p).flatMap decI):=by rw[Ara.flatI];exact hs2
 rcases h1.2 with⟨_,h4⟩|⟨g,cp,cur,h3,hg,hbk,rest⟩
 ·omega
 ·injection h3 with h3 _ h5
  subst h3;obtain⟨b,off,e,hb,hcell⟩:=sl_g hs3 hl;injection e with e;injection e with e1 e2;subst e1 e2;exact⟨g,c2,rfl,hg,hb,fun j hj=>by have:=hcell j hj;rwa [Nat.zero_add]at this,h2⟩
end Go.Proofs.YtfmiioddhpkdkaaGreat.Tp
