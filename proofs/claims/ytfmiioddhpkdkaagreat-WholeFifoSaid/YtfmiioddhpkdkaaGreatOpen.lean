/- How the arguments of a law read: plain cells (numbers, bools, structs and arrays of these) and slices of them, as Lean lists. -/
import Derived.Test.YtfmiioddhpkdkaaGreatKit
import Derived.ProofKit
import Derived.OpenShut
import Derived.ShutString
import Derived.ChangeOld
import Derived.Deep.Slices
import Derived.Deep.Fields
namespace Go.Proofs.YtfmiioddhpkdkaaGreat
open Go.RowKit Go.ChangeShapes Go.WideShapes Go.Deep
def Sl (w:World)(B:Nat)(A:Option Addr)(xs:List Value):Prop:=
 xs=[]∨∃b off,A=some ⟨b,off,none⟩∧b<B∧∀j (h:j<xs.length),w.cell? ⟨b,off+j,none⟩=some xs[j]
theorem Sl.at_ {w:World}{B:Nat}{A:Option Addr}{xs:List Value}(h:Sl w B A xs)(hx:0<xs.length):
 ∃b off,A=some ⟨b,off,none⟩∧b<B∧∀j (h:j<xs.length),w.cell? ⟨b,off+j,none⟩=some xs[j]:=by
 rcases h with rfl|h
 ·simp at hx
 ·exact h
theorem Sl.nil (w:World)(B:Nat)(A:Option Addr):Sl w B A []:= .inl rfl
theorem Sl.keep {w w':World}{B:Nat}{A:Option Addr}{xs:List Value}(h:Sl w B A xs)(hk:∀p:Addr,p.block<B→w'.cell? p=w.cell? p):Sl w' B A xs:=by
 rcases h with h|⟨b,off,hA,hb,hc⟩
 ·exact .inl h
 ·exact .inr ⟨b,off,hA,hb,fun j hj=>(hk _ hb).trans (hc j hj)⟩
theorem Sl.below {w w':World}{B:Nat}{A:Option Addr}{xs:List Value}(h:Sl w B A xs)(hb:Below B w w'):Sl w' B A xs:=h.keep fun _ hp=>hb.cell hp
theorem Sl.more {w:World}{B B':Nat}{A:Option Addr}{xs:List Value}(h:Sl w B A xs)(hB:B≤B'):Sl w B' A xs:=by
 rcases h with h|⟨b,off,hA,hb,hc⟩
 ·exact .inl h
 ·exact .inr ⟨b,off,hA,by omega,hc⟩
theorem Sl_new (w:World)(cs:Array Value)(T:TypeId):Sl (w.alloc (.cells cs T)) (w.heap.size+1) (some ⟨w.heap.size,0,none⟩) cs.toList:=by
 right;refine⟨w.heap.size,0,rfl,by omega,fun j hj=> ?_⟩;rw[World.cell?_alloc_at _ _ _ _ rfl];simp at hj;simp[hj]
theorem Sl.alloc {w:World}{B:Nat}{A:Option Addr}{xs:List Value}(h:Sl w B A xs)(hB:B≤w.heap.size)(o:Obj):Sl (w.alloc o) B A xs:=h.below ((Below.refl B w).alloc hB o)
theorem Sl.step {w w':World}{A:Option Addr}{xs:List Value}(h:Sl w w.heap.size A xs)(hb:Below w.heap.size w w'):Sl w' w'.heap.size A xs:=(h.below hb).more hb.size
theorem Sl.push {w:World}{A:Option Addr}{xs:List Value}(h:Sl w w.heap.size A xs)(o:Obj):Sl (w.alloc o) (w.alloc o).heap.size A xs:=(h.alloc (Nat.le_refl _) o).more (by simp)
theorem Sl.drews {w:World}{A:Option Addr}{xs:List Value}(h:Sl w w.heap.size A xs)(n:Nat):Sl (w.drewN n) (w.drewN n).heap.size A xs:=h
theorem Sl.made (w:World)(cs:Array Value)(T:TypeId):Sl (w.alloc (.cells cs T)) (w.alloc (.cells cs T)).heap.size (some ⟨w.heap.size,0,none⟩) cs.toList:=(Sl_new w cs T).more (by simp)
theorem add_eq {a:Addr}{j:Nat}{w:World}{v:Value}(h:w.cell? (a.add j)=some v):a.add j=⟨a.block,a.off+j,none⟩:=by
 unfold Addr.add at h⊢;split
 ·rename_i hj
  subst hj;rw[if_pos rfl]at h;have:=World.cell?_spot h;cases a;simp_all
 ·rfl
section
variable {H:Type}{enc:TypeId×Value→H}{P:Program}{w:World}{base:Nat}{spare:Nat→Bool}{held:Bool}{fuel:Nat}{t e:TypeId}{cs:List Value}{x:DataW H×List MemPlace}
def Reads (enc:TypeId×Value→H)(P:Program)(t:TypeId){α:Type}(dec:α→List Value)(ok:α→Prop):Prop:=
 ∀(w:World) (base:Nat) (spare:Nat→Bool) (held:Bool) (fuel:Nat) (cs:List Value) (x:DataW H×List MemPlace),
  DataW.trod enc P w base spare held fuel t cs=some x→∃a,cs=dec a∧ok a
def isI64 (n:Int):Prop:= -9223372036854775808≤n∧n≤9223372036854775807
def isU8 (n:Int):Prop:=0≤n∧n≤255
theorem reads_i64 (ht:P.underlying t=some (.int .i64)):Reads enc P t (fun n:Int=> [.int .i64 n]) isI64:=by
 intro w base spare held fuel cs x h;obtain⟨n,rfl,_,hw⟩:=DataW.trod_int ht h;exact⟨n,rfl,bounds_i64 hw⟩
theorem reads_u8 (ht:P.underlying t=some (.int .u8)):Reads enc P t (fun n:Int=> [.int .u8 n]) isU8:=by
 intro w base spare held fuel cs x h;obtain⟨n,rfl,_,hw⟩:=DataW.trod_int ht h;exact⟨n,rfl,bounds_u8 hw⟩
theorem reads_bool (ht:P.underlying t=some .bool):Reads enc P t (fun n:Bool=> [.bool n]) (fun _=>True):=by
 intro w base spare held fuel cs x h;obtain⟨n,rfl,_⟩:=DataW.trod_bool ht h;exact⟨n,rfl,trivial⟩
theorem fields_of {fs:Array Field}(hs:P.underlying t=some (.struct fs))(hone:oneCellFields P fs=true)(hC:P.cellsOf t=fs.size)
 (h:DataW.trod enc P w base spare held fuel t cs=some x):
 cs.length=fs.size∧∀(i:Nat) (f:Field) (c:Value),fs[i]? =some f→cs[i]? =some c→∃n y,DataW.trod enc P w base spare held n f.type [c]=some y:=by
 obtain⟨xs,n,_,_,hl,hxl,hf⟩:=DataW.trod_struct hs h;refine⟨hl.trans hC,fun i f c hi hc=> ?_⟩;have h1:=hf i f hi;obtain⟨ho,hk⟩:=hone_of hone i f hi;rw[ho,hk]at h1;have hil:i<fs.size:=(Array.getElem?_eq_some_iff.1 hi).1
 have hd:(cs.drop i).take 1=[c]:=by
  have hic:i<cs.length:=(List.getElem?_eq_some_iff.1 hc).1;rw[List.drop_eq_getElem_cons hic];have:=(List.getElem?_eq_some_iff.1 hc).2;simp[this]
 rw[hd]at h1;refine⟨n,_,h1.trans (List.getElem?_eq_getElem (by omega))⟩
theorem mapM_dec {α:Type}{dec:α→List Value}{ok:α→Prop}{k:Nat}(hr:Reads enc P e dec ok):
 ∀(m:Nat) (cs:List Value),cs.length=m*k→(∀i,i<m→∃n y,DataW.trod enc P w base spare held n e ((cs.drop (i*k)).take k)=some y)→
  ∃l:List α,l.length=m∧cs=l.flatMap dec∧∀a∈l,ok a:=by
 intro m
 induction m with
 |zero=>intro cs hl _;exact⟨[],rfl,by simpa using hl,by simp⟩
 |succ m ih=>
  intro cs hl hi;obtain⟨n,y,h0⟩:=hi 0 (by omega);simp only[Nat.zero_mul,List.drop_zero]at h0;obtain⟨a,ha,oka⟩:=hr _ _ _ _ _ _ _ h0
  obtain⟨l,hll,hcs,hok⟩:=ih (cs.drop k) (by rw[List.length_drop,hl,Nat.add_mul];omega) (fun i him=>by
   obtain⟨n,y,h⟩:=hi (i+1) (by omega);rw[List.drop_drop];rw[Nat.add_mul,Nat.one_mul,Nat.add_comm]at h;exact⟨n,y,h⟩)
  refine⟨a::l,by simp[hll],?_,by simpa using⟨oka,hok⟩⟩;rw[List.flatMap_cons,←hcs,←ha,List.take_append_drop]
theorem reads_arr {α:Type}{dec:α→List Value}{ok:α→Prop}{n:Nat}(ht:P.underlying t=some (.array n e))(hC:P.cellsOf t=n*P.cellsOf e)(hr:Reads enc P e dec ok):
 Reads enc P t (fun l:List α=>l.flatMap dec) (fun l=>l.length=n∧∀a∈l,ok a):=by
 intro w base spare held fuel cs x h;obtain⟨xs,m,_,_,hl,hxl,hi⟩:=DataW.trod_array ht h;obtain⟨l,h1,h2,h3⟩:=mapM_dec (w:=w) (base:=base) (spare:=spare) (held:=held) (k:=P.cellsOf e) hr n cs (hl.trans hC) (fun i him=>⟨m,_,(hi i him).trans (List.getElem?_eq_getElem (by omega))⟩);exact⟨l,h2,h1,h3⟩
theorem flat_len {α:Type}{dec:α→List Value}{k:Nat}(hdk:∀a,(dec a).length=k)(l:List α):(l.flatMap dec).length=l.length*k:=by
 induction l with
 |nil=>simp
 |cons y l ihl=>rw[List.flatMap_cons,List.length_append,hdk,ihl,List.length_cons,Nat.add_mul];omega
theorem slice_of {α:Type}{dec:α→List Value}{ok:α→Prop}{k:Nat}(ht:P.underlying t=some (.slice e))(hk:P.cellsOf e=k)(hdk:∀a,(dec a).length=k)(hr:Reads enc P e dec ok)
 (h:DataW.trod enc P w base spare held fuel t cs=some x):
 ∃(A:Option Addr) (len cap:Nat) (l:List α),cs=[.slice A len cap]∧l.length=len∧len≤cap∧cap≤maxLen∧(∀a∈l,ok a)∧Sl w w.heap.size A (l.flatMap dec):=by
 rcases open_slice ht h with⟨rfl,_⟩|⟨a,len,cap,m,n,D,Pl,rfl,hb,hl,hm,hmm,_,hi⟩
 ·exact⟨none,0,0,[],rfl,rfl,Nat.le_refl _,Nat.zero_le _,by simp,.inl rfl⟩
 ·have hlm:len≤m:=by rw[hmm];split<;>omega
  rw[hk]at hi
  have key:∀q,q≤len→∃l:List α,l.length=q∧(∀a∈l,ok a)∧∀j u,(l.flatMap dec)[j]? =some u→w.cell? (a.add j)=some u:=by
   intro q
   induction q with
   |zero=>intro _;exact⟨[],rfl,by simp,by simp⟩
   |succ q ih=>
    intro hq;obtain⟨l,h1,h2,h3⟩:=ih (by omega);obtain⟨cs',hc,ht'⟩:=hi q (by omega);obtain⟨c,rfl,okc⟩:=hr _ _ _ _ _ _ _ ht';obtain⟨_,hcl,hat⟩:=World.cells?_some hc;refine⟨l++ [c],by simp[h1],?_,?_⟩
    ·intro y hy
     rcases List.mem_append.1 hy with hy|hy
     ·exact h2 y hy
     ·obtain rfl:y=c:=by simpa using hy
      exact okc
    ·intro j u hu
     have hfl:(l.flatMap dec).length=q*k:=by rw[flat_len hdk,h1]
     rw[List.flatMap_append]at hu;by_cases hj:j<q*k
     ·rw[List.getElem?_append_left (by omega)]at hu
      exact h3 j u hu
     ·rw[List.getElem?_append_right (by omega),hfl]at hu
      simp only[List.flatMap_cons,List.flatMap_nil,List.append_nil]at hu;have hjk:j-q*k<k:=by have:=(List.getElem?_eq_some_iff.1 hu).1;rw[hdk]at this;exact this
      have h4:=hat (j-q*k) hjk;rw[hu]at h4;rw[←h4];congr 1;rw[add_add];congr 1;omega
  obtain⟨l,h1,h2,h3⟩:=key len (Nat.le_refl _);refine⟨some a,len,cap,l,rfl,h1,hl,hm,h2,?_⟩;by_cases hx:l.flatMap dec=[]
  ·exact .inl hx
  ·right
   have h0:0<(l.flatMap dec).length:=List.length_pos_iff.2 hx;have hc0:=h3 0 _ (List.getElem?_eq_getElem h0);have ha:a=⟨a.block,a.off,none⟩:=by simpa[Addr.add]using add_eq hc0
   refine⟨a.block,a.off,by rw[←ha],?_,fun j hj=> ?_⟩
   ·exact World.block_lt_of_cell? w a (by simpa[Addr.add]using hc0)
   ·have hc:=h3 j _ (List.getElem?_eq_getElem hj)
    rw[add_eq hc]at hc;exact hc
end
section
variable {H:Type}{enc:TypeId×Value→H}{P:Program}{t:TypeId}
theorem Reads.map {α β:Type}{dec:α→List Value}{ok:α→Prop}{dec':β→List Value}{ok':β→Prop}(h:Reads enc P t dec ok)(f:α→β)(hd:∀a,dec a=dec' (f a))(ho:∀a,ok a→ok' (f a)):
 Reads enc P t dec' ok':=by
 intro w base spare held fuel cs x hx;obtain⟨a,h1,h2⟩:=h _ _ _ _ _ _ _ hx;exact⟨f a,h1.trans (hd a),ho a h2⟩
theorem one_of {α:Type}{d:α→Value}{ok:α→Prop}{w:World}{base:Nat}{spare:Nat→Bool}{held:Bool}{n:Nat}{u:TypeId}{c:Value}{y:DataW H×List MemPlace}
 (h:Reads enc P u (fun a=> [d a]) ok) (hf:DataW.trod enc P w base spare held n u [c]=some y):∃a,c=d a∧ok a:=by
 obtain⟨a,h1,h2⟩:=h _ _ _ _ _ _ _ hf;exact⟨a,by simpa using h1,h2⟩
theorem reads_s2 {α0 α1:Type}{d0:α0→Value}{d1:α1→Value}{o0:α0→Prop}{o1:α1→Prop}{f0 f1:Field}
 (hs:P.underlying t=some (.struct #[f0,f1])) (hone:oneCellFields P #[f0,f1]=true) (hC:P.cellsOf t=2)
 (r0:Reads enc P f0.type (fun a=> [d0 a]) o0) (r1:Reads enc P f1.type (fun a=> [d1 a]) o1):
 Reads enc P t (fun p:α0×α1=> [d0 p.1,d1 p.2]) (fun p=>o0 p.1∧o1 p.2):=by
 intro w base spare held fuel cs x h;obtain⟨hl,hf⟩:=fields_of hs hone hC h
 match cs,hl with
 |[c0,c1],_=>
  obtain⟨_,_,g0⟩:=hf 0 f0 c0 rfl rfl;obtain⟨_,_,g1⟩:=hf 1 f1 c1 rfl rfl;obtain⟨a0,rfl,k0⟩:=one_of r0 g0;obtain⟨a1,rfl,k1⟩:=one_of r1 g1;exact⟨(a0,a1),rfl,k0,k1⟩
theorem reads_s3 {α0 α1 α2:Type}{d0:α0→Value}{d1:α1→Value}{d2:α2→Value}{o0:α0→Prop}{o1:α1→Prop}{o2:α2→Prop}{f0 f1 f2:Field}
 (hs:P.underlying t=some (.struct #[f0,f1,f2])) (hone:oneCellFields P #[f0,f1,f2]=true) (hC:P.cellsOf t=3)
 (r0:Reads enc P f0.type (fun a=> [d0 a]) o0) (r1:Reads enc P f1.type (fun a=> [d1 a]) o1) (r2:Reads enc P f2.type (fun a=> [d2 a]) o2):
 Reads enc P t (fun p:α0×α1×α2=> [d0 p.1,d1 p.2.1,d2 p.2.2]) (fun p=>o0 p.1∧o1 p.2.1∧o2 p.2.2):=by
 intro w base spare held fuel cs x h;obtain⟨hl,hf⟩:=fields_of hs hone hC h
 match cs,hl with
 |[c0,c1,c2],_=>
  obtain⟨_,_,g0⟩:=hf 0 f0 c0 rfl rfl;obtain⟨_,_,g1⟩:=hf 1 f1 c1 rfl rfl;obtain⟨_,_,g2⟩:=hf 2 f2 c2 rfl rfl;obtain⟨a0,rfl,k0⟩:=one_of r0 g0;obtain⟨a1,rfl,k1⟩:=one_of r1 g1;obtain⟨a2,rfl,k2⟩:=one_of r2 g2;exact⟨(a0,a1,a2),rfl,k0,k1,k2⟩
theorem reads_s4 {α0 α1 α2 α3:Type}{d0:α0→Value}{d1:α1→Value}{d2:α2→Value}{d3:α3→Value}{o0:α0→Prop}{o1:α1→Prop}{o2:α2→Prop}{o3:α3→Prop}{f0 f1 f2 f3:Field}
 (hs:P.underlying t=some (.struct #[f0,f1,f2,f3])) (hone:oneCellFields P #[f0,f1,f2,f3]=true) (hC:P.cellsOf t=4)
 (r0:Reads enc P f0.type (fun a=> [d0 a]) o0) (r1:Reads enc P f1.type (fun a=> [d1 a]) o1) (r2:Reads enc P f2.type (fun a=> [d2 a]) o2) (r3:Reads enc P f3.type (fun a=> [d3 a]) o3):
 Reads enc P t (fun p:α0×α1×α2×α3=> [d0 p.1,d1 p.2.1,d2 p.2.2.1,d3 p.2.2.2]) (fun p=>o0 p.1∧o1 p.2.1∧o2 p.2.2.1∧o3 p.2.2.2):=by
 intro w base spare held fuel cs x h;obtain⟨hl,hf⟩:=fields_of hs hone hC h
 match cs,hl with
 |[c0,c1,c2,c3],_=>
  obtain⟨_,_,g0⟩:=hf 0 f0 c0 rfl rfl;obtain⟨_,_,g1⟩:=hf 1 f1 c1 rfl rfl;obtain⟨_,_,g2⟩:=hf 2 f2 c2 rfl rfl;obtain⟨_,_,g3⟩:=hf 3 f3 c3 rfl rfl;obtain⟨a0,rfl,k0⟩:=one_of r0 g0;obtain⟨a1,rfl,k1⟩:=one_of r1 g1;obtain⟨a2,rfl,k2⟩:=one_of r2 g2;obtain⟨a3,rfl,k3⟩:=one_of r3 g3;exact⟨(a0,a1,a2,a3),rfl,k0,k1,k2,k3⟩
end
theorem list2 {α:Type}{l:List α}(h:l.length=2):∃a b,l=[a,b]:=by
 match l,h with
 |[a,b],_=>exact⟨a,b,rfl⟩
theorem list3 {α:Type}{l:List α}(h:l.length=3):∃a b c,l=[a,b,c]:=by
 match l,h with
 |[a,b,c],_=>exact⟨a,b,c,rfl⟩
theorem list4 {α:Type}{l:List α}(h:l.length=4):∃a b c d,l=[a,b,c,d]:=by
 match l,h with
 |[a,b,c,d],_=>exact⟨a,b,c,d,rfl⟩
theorem list5 {α:Type}{l:List α}(h:l.length=5):∃a b c d e,l=[a,b,c,d,e]:=by
 match l,h with
 |[a,b,c,d,e],_=>exact⟨a,b,c,d,e,rfl⟩
theorem flat_get {α:Type}{dec:α→List Value}{k:Nat}(hdk:∀a,(dec a).length=k)(l:List α)(i j:Nat)(hj:j<k)(a:α)(ha:l[i]? =some a):
 (l.flatMap dec)[i*k+j]? =(dec a)[j]? :=by
 induction l generalizing i with
 |nil=>simp at ha
 |cons y l ih=>
  rw[List.flatMap_cons];cases i with
  |zero=>
   obtain rfl:y=a:=by simpa using ha
   rw[Nat.zero_mul,Nat.zero_add,List.getElem?_append_left (by rw[hdk];exact hj)]
  |succ i=>
   have h1:k≤(i+1)*k+j:=by rw[Nat.add_mul];omega
   rw[List.getElem?_append_right (by rw[hdk];exact h1),hdk,show(i+1)*k+j-k=i*k+j by rw[Nat.add_mul];omega];exact ih i (by simpa using ha)
theorem Sl_at {α:Type}{dec:α→List Value}{k:Nat}{w:World}{B:Nat}{A:Option Addr}{l:List α}(hdk:∀a,(dec a).length=k)(hk:0<k)(h:Sl w B A (l.flatMap dec))(hl:0<l.length):
 ∃b off,A=some ⟨b,off,none⟩∧b<B∧∀i (hi:i<l.length) j (_:j<k),w.cell? ⟨b,off+(i*k+j),none⟩=(dec l[i])[j]? :=by
 have hlen:=flat_len hdk l;have:0<l.length*k:=Nat.mul_pos hl hk;obtain⟨b,off,hA,hb,hc⟩:=h.at_ (by omega);refine⟨b,off,hA,hb,fun i hi j hj=> ?_⟩;have h1:=flat_get hdk l i j hj l[i] (List.getElem?_eq_getElem hi)
 have hlt:i*k+j<(l.flatMap dec).length:=by
  have:(i+1)*k≤l.length*k:=Nat.mul_le_mul_right _ hi;rw[Nat.add_mul]at this;omega
 rw[hc _ hlt,←h1,List.getElem?_eq_getElem hlt]
section
variable {H:Type}{enc:TypeId×Value→H}{P:Program}{w:World}{base:Nat}{spare:Nat→Bool}{held:Bool}{t e:TypeId}{v:Value}{d:DataW H}{p:List MemPlace}{r:Reach}{b0:Nat}
theorem arg_cell {α:Type}{dec:α→List Value}{ok:α→Prop}(hr:Reads enc P t dec ok)(h:DataW.Trod enc P w base spare held t v d p):∃a,v.cells.toList=dec a∧ok a:=by
 obtain⟨fuel,hf⟩:=h;exact hr _ _ _ _ _ _ _ hf
theorem arg_agg {α:Type}{dec:α→List Value}{ok:α→Prop}(hr:Reads enc P t dec ok)(hv:∃cs,v= .agg cs)(h:DataW.Trod enc P w base spare held t v d p):∃a,v= .agg (dec a).toArray∧ok a:=by
 obtain⟨cs,rfl⟩:=hv;obtain⟨a,h1,h2⟩:=arg_cell hr h;refine⟨a,?_,h2⟩;rw[←h1];simp[Value.cells]
theorem arg_slice {α:Type}{dec:α→List Value}{ok:α→Prop}{k:Nat}(ht:P.underlying t=some (.slice e))(hk:P.cellsOf e=k)(hdk:∀a,(dec a).length=k)(hr:Reads enc P e dec ok)
 (hv:Value.okWide P w r b0 t v) (h:DataW.Trod enc P w base spare held t v d p):
 ∃(A:Option Addr) (len cap:Nat) (l:List α),v= .slice A len cap∧l.length=len∧len≤cap∧cap≤maxLen∧(∀a∈l,ok a)∧Sl w w.heap.size A (l.flatMap dec):=by
 obtain⟨a0,len,cap,rfl⟩:=okWide_slice ht hv;obtain⟨fuel,hf⟩:=h;obtain⟨A,n,c,l,h1,h2⟩:=slice_of ht hk hdk hr hf;simp[Value.cells]at h1;obtain⟨rfl,rfl,rfl⟩:=h1;exact⟨_,_,_,l,rfl,h2⟩
theorem okAgg_struct {fs:Array Field}(ht:P.underlying t=some (.struct fs))(h:Value.okWide P w r b0 t v):∃cs,v= .agg cs:=by
 simp only[Value.okWide,ht]at h;obtain⟨cs,h1,_⟩:=h;exact⟨cs,h1⟩
theorem okAgg_array {n:Nat}(ht:P.underlying t=some (.array n e))(h:Value.okWide P w r b0 t v):∃cs,v= .agg cs:=by
 simp only[Value.okWide,ht]at h;obtain⟨cs,h1,_⟩:=h;exact⟨cs,h1⟩
end
end Go.Proofs.YtfmiioddhpkdkaaGreat
