/- Small lemmas for the walks: what a draw keeps; worlds below a block. -/
import Derived.Test.YtfmiioddhpkdkaaGreatRows
import Derived.WalkKit
import Derived.WalkSpells
import Derived.WalkLawsBesides
import Derived.Lib.Hide
import Derived.Deep.QuietTactic
import Derived.BigQuiet
import Derived.Deep.LoopGhost
import Derived.Deep.RegionLaw
import Derived.Deep.DeepFit
import Derived.Deep.DeepMust
namespace Go.Proofs.YtfmiioddhpkdkaaGreat
open Go.RowKit
theorem below_drewN {B:Nat}{a w:World}(h:Below B a w)(n:Nat):Below B a (w.drewN n):=⟨h.os,h.tape,h.output,h.size,h.block⟩
theorem below_new (w:World)(o:Obj):Below w.heap.size w (w.alloc o):=(Below.refl _ _).alloc (Nat.le_refl _) o
theorem grown_trans {a b c:World}{row:Option Nat}(h:a.grownBy b row)(k:b.grownBy c row):a.grownBy c row:=
 ⟨k.os.trans h.os,k.tape.trans h.tape,k.output.trans h.output,Nat.le_trans h.size k.size,fun i hi hne=>(k.block i (Nat.lt_of_lt_of_le hi h.size) hne).trans (h.block i hi hne)⟩
theorem grown_drewN {a w:World}{row:Option Nat}(h:a.grownBy w row)(n:Nat):a.grownBy (w.drewN n) row:=⟨h.os,h.tape,h.output,h.size,h.block⟩
theorem own_drewN {w:World}{base:Nat}{e:TypeId}{size:Nat}{v:Value}{n:Nat}{xs:List Value}(h:w.ownsRow base e size v n xs)(m:Nat):(w.drewN m).ownsRow base e size v n xs:=h
theorem own_below {w w':World}{base B:Nat}{e:TypeId}{size:Nat}{v:Value}{n:Nat}{xs:List Value}(h:w.ownsRow base e size v n xs)(hB:w.heap.size≤B)(hb:Below B w w'):w'.ownsRow base e size v n xs:=
 h.kept (row:=none) ⟨hb.os,hb.tape,hb.output,hb.size,fun k hk _=>hb.block k (by omega)⟩ (by cases hv:v.ownBlock<;>simp)
theorem own_base {w:World}{base b2:Nat}{e:TypeId}{size:Nat}{v:Value}{n:Nat}{xs:List Value}(h:w.ownsRow base e size v n xs)(hB:b2≤base):w.ownsRow b2 e size v n xs:=by
 refine⟨h.1,?_⟩;rcases h.2 with hn|⟨g,cap,cur,rfl,hb,rest⟩
 ·exact .inl hn
 ·exact .inr ⟨g,cap,cur,rfl,by omega,rest⟩
theorem wpList_append1 {P:Program}{ops:Array Oper}{rest:List Oper}{o:Oper}{a:Act}{Q:Exit→Act→World→Prop}(s x:Operand)(t e:TypeId)(z:Value)(size bytes:Nat)
 (hgd:o.guard=none) (ho:o.op= .call {callee:= .builtin .append,args:= #[s,x],argTypes:= #[t,t]}) (ht:P.underlying t=some (.slice e))
 (hinfo:(P.info? e).map (fun i=>(i.zero,i.size,i.bytes))=some (some z,size,bytes)) (hzs:z.cells.size=size) (hsz:0<size)
 (base:Nat) (w:World) (v:Value) (n:Nat) (xs:List Value) (news:Array Value) (e':TypeId) (c g:Nat) (hown:w.ownsRow base e size v n xs) (hs:a.eval s=v) (hx:a.eval x= .slice (some ⟨g,0,none⟩) 1 c) (hgs:w.heap.size=g)
 (hl:news.size=size) (h1:∀u∈news.toList,u.oneCell'=true) (h63:n+1≤maxLen) (hbytes:(n+1)*bytes≤140737488355328) (hbase:base≤w.heap.size)
 (h:∀v' w',w'.ownsRow base e size v' (n+1) (xs++news.toList)→Below base w w'→w.grownBy w' v.ownBlock→wpList P ops Q rest (a.put o.dst v') w'):
 wpList P ops Q (o::rest) a (w.alloc (.cells news e')):=by
 subst hgs;obtain⟨i0,hi0,hz0,hz1,hz2⟩:=info_parts hinfo;refine wpList_append_own _ hgd s x t ho base e i0 z size bytes ht hi0 hz0 hz1 hz2 hzs hsz v n xs hs (hown.alloc _) ⟨w.heap.size,0,none⟩ 1 c news.toList hx (by simpa using hl) ?_ h1 h63 hbytes (by simp;omega) ?_
 ·intro j u hu
  have hadd:(⟨w.heap.size,0,none⟩:Addr).add j=⟨w.heap.size,j,none⟩:=by unfold Addr.add;split<;>simp_all
  rw[hadd,World.cell?_alloc_at _ _ _ _ rfl];simpa using hu
 ·intro v' w' h2 h3 h4
  have hg:=grown_trans (World.grownBy_alloc w (.cells news e') v.ownBlock) h3;exact h v' w' h2 ((Below.refl _ _).grown hg hbase (fun k hk=>(hown.lt k hk).1)) hg
def Exit.jump2 (l0 l1:Nat)(J0 J1:Act→World→Prop)(Q:Exit→Act→World→Prop):Exit→Act→World→Prop
 |.goto l,a,w=>(l=l0∧J0 a w)∨(l=l1∧J1 a w)
 |e,a,w=>Q e a w
section
variable {P:Program}{a:Act}{w:World}{Q:Exit→Act→World→Prop}
theorem jump2_mono {l0 l1:Nat}{J0 J1 J0' J1':Act→World→Prop}(h0:∀a w,J0 a w→J0' a w)(h1:∀a w,J1 a w→J1' a w){e:Exit}{a:Act}{w:World}(h:Exit.jump2 l0 l1 J0 J1 Q e a w):Exit.jump2 l0 l1 J0' J1' Q e a w:=by
 cases e with
 |goto l=>exact h.imp (fun x=>⟨x.1,h0 _ _ x.2⟩) (fun x=>⟨x.1,h1 _ _ x.2⟩)
 |_=>exact h
theorem wp_scope_two {c x0 x1:Code}(l0 l1:Nat)(J0 J1:Act→World→Prop)(μ:Act→World→Nat)(hf0:findLabel c l0=some (Code.skip.seq x0))(hf1:findLabel c l1=some (Code.skip.seq x1))
 (pass1:∀a w,J1 a w→x1.wp P (Exit.jump2 l0 l1 (fun a' w'=>J0 a' w'∧μ a' w'<μ a w) (fun a' w'=>J1 a' w'∧μ a' w'<μ a w) Q) a w)
 (pass0:∀a w,J0 a w→(∀a1 w1,J1 a1 w1→μ a1 w1≤μ a w→x1.wp P (Exit.jump2 l0 l1 (fun a' w'=>J0 a' w'∧μ a' w'<μ a w) (fun a' w'=>J1 a' w'∧μ a' w'<μ a w) Q) a1 w1)→
  x0.wp P (Exit.jump2 l0 l1 (fun a' w'=>J0 a' w'∧μ a' w'<μ a w) (fun a' w'=>J1 a' w'∧μ a' w'<μ a w) Q) a w)
 (frst:(∀a w,J0 a w→x0.wp P (Exit.jump2 l0 l1 J0 J1 Q) a w)→c.wp P (Exit.jump2 l0 l1 J0 J1 Q) a w):(Code.scope c).wp P Q a w:=by
 intro b k cs
 have p0:∀a w,J0 a w→x0.wp P (Exit.jump2 l0 l1 (fun a' w'=>J0 a' w'∧μ a' w'<μ a w) (fun a' w'=>J1 a' w'∧μ a' w'<μ a w) Q) a w:=fun a w h=>
  pass0 a w h fun a1 w1 h1 hle=>Code.wp_mono (fun _ _ _ q=>jump2_mono (fun _ _ x=>⟨x.1,Nat.lt_of_lt_of_le x.2 hle⟩) (fun _ _ x=>⟨x.1,Nat.lt_of_lt_of_le x.2 hle⟩) q) (pass1 a1 w1 h1)
 have key:∀n a w,μ a w=n→(J0 a w→∃e a' w',Q e a' w'∧Arrives P (lone (b.at a (.code (Code.skip.seq x0):: .inScope c::k)) cs w) b k cs e a' w')∧
  (J1 a w→∃e a' w',Q e a' w'∧Arrives P (lone (b.at a (.code (Code.skip.seq x1):: .inScope c::k)) cs w) b k cs e a' w'):=by
  intro n
  induction n using Nat.strongRecOn with
  |_ n ih=>
   intro a w hn
   have fin:∀ {x:Code},x.wp P (Exit.jump2 l0 l1 (fun a' w'=>J0 a' w'∧μ a' w'<μ a w) (fun a' w'=>J1 a' w'∧μ a' w'<μ a w) Q) a w→
    ∃e a' w',Q e a' w'∧Arrives P (lone (b.at a (.code (Code.skip.seq x):: .inScope c::k)) cs w) b k cs e a' w':=by
    intro x hp;obtain⟨e,a₁,w₁,hq,harr⟩:=(wp_seq (wp_skip hp):(Code.skip.seq x).wp P _ a w) b (.inScope c::k) cs;cases e with
    |normal=>exact⟨.normal,a₁,w₁,hq,Steps.trans harr (.one step_inScope)⟩
    |exit id=>exact⟨.exit id,a₁,w₁,hq,fun k' hk=>harr k' (by simp[exitTo,hk])⟩
    |goto l'=>
     rcases hq with⟨rfl,hJ',hlt⟩|⟨rfl,hJ',hlt⟩
     ·obtain⟨e₂,a₂,w₂,hq₂,harr₂⟩:=(ih _ (by omega) a₁ w₁ rfl).1 hJ'
      exact⟨e₂,a₂,w₂,hq₂,.of_steps (harr _ (by simp[gotoIn,hf0])) harr₂⟩
     ·obtain⟨e₂,a₂,w₂,hq₂,harr₂⟩:=(ih _ (by omega) a₁ w₁ rfl).2 hJ'
      exact⟨e₂,a₂,w₂,hq₂,.of_steps (harr _ (by simp[gotoIn,hf1])) harr₂⟩
    |ret=>exact⟨_,a₁,w₁,hq,harr⟩
    |panic ch=>exact⟨_,a₁,w₁,hq,harr⟩
    |outgrown=>exact⟨_,a₁,w₁,hq,harr⟩
   exact⟨fun hJ=>fin (p0 a w hJ),fun hJ=>fin (pass1 a w hJ)⟩
 obtain⟨e,a₁,w₁,hq,harr⟩:=frst (fun a w h=>Code.wp_mono (fun _ _ _ q=>jump2_mono (fun _ _ x=>x.1) (fun _ _ x=>x.1) q) (p0 a w h)) b (.inScope c::k) cs;cases e with
 |normal=>exact⟨.normal,a₁,w₁,hq,.head step_scope (Steps.trans harr (.one step_inScope))⟩
 |exit id=>exact⟨.exit id,a₁,w₁,hq,fun k' hk=> .head step_scope (harr k' (by simp[exitTo,hk]))⟩
 |goto l'=>
  rcases hq with⟨rfl,hJ'⟩|⟨rfl,hJ'⟩
  ·obtain⟨e₂,a₂,w₂,hq₂,harr₂⟩:=(key _ a₁ w₁ rfl).1 hJ'
   exact⟨e₂,a₂,w₂,hq₂,.of_steps (.head step_scope (harr _ (by simp[gotoIn,hf0]))) harr₂⟩
  ·obtain⟨e₂,a₂,w₂,hq₂,harr₂⟩:=(key _ a₁ w₁ rfl).2 hJ'
   exact⟨e₂,a₂,w₂,hq₂,.of_steps (.head step_scope (harr _ (by simp[gotoIn,hf1]))) harr₂⟩
 |ret=>exact⟨_,a₁,w₁,hq,.of_steps (.one step_scope) harr⟩
 |panic ch=>exact⟨_,a₁,w₁,hq,.of_steps (.one step_scope) harr⟩
 |outgrown=>exact⟨_,a₁,w₁,hq,.of_steps (.one step_scope) harr⟩
end
theorem own_slice {w:World}{base:Nat}{e:TypeId}{size:Nat}{v:Value}{n:Nat}{xs:List Value}(h:w.ownsRow base e size v n xs):
 ∃A c,v= .slice A n c∧n≤c∧c≤maxLen∧(xs=[]∨∃b off,A=some ⟨b,off,none⟩∧b<w.heap.size∧∀j (h:j<xs.length),w.cell? ⟨b,off+j,none⟩=some xs[j]):=by
 rcases h.2 with⟨rfl,rfl⟩|⟨g,cap,cur,rfl,hb,hg,hnc,hcm,hcs,htake⟩
 ·exact⟨none,0,rfl,Nat.le_refl _,Nat.zero_le _,.inl (List.eq_nil_of_length_eq_zero (by simpa using h.1))⟩
 ·refine⟨some ⟨g,0,none⟩,cap,rfl,hnc,hcm,.inr ⟨g,0,rfl,(Array.getElem?_eq_some_iff.1 hg).1,fun j hj=> ?_⟩⟩
  have:=h.cells (g:=g) rfl j _ (List.getElem?_eq_getElem hj);have hadd:(⟨g,0,none⟩:Addr).add j=⟨g,0+j,none⟩:=by unfold Addr.add;split<;>simp_all
  rwa [hadd]at this
theorem own_set {w:World}{base:Nat}{e:TypeId}{size:Nat}{v:Value}{n:Nat}{xs:List Value}{p:Addr}(h:w.ownsRow base e size v n xs)(hne:∀b,v.ownBlock=some b→b≠p.block)(u:Value):(w.setCell p u).ownsRow base e size v n xs:=
 h.kept (row:=some p.block) ⟨rfl,rfl,rfl,by simp[World.setCell],fun k _ hk=>Below.heap_setCell _ _ _ _ (fun e=>hk (by rw[e]))⟩ (by
  cases hv:v.ownBlock with
  |none=>simp
  |some b=>right;intro e;injection e with e;exact hne b hv e)
theorem blk_set {w:World}{g:Nat}{t:TypeId}{cs:Array Value}(h:w.heap[g]? =some (.cells cs t (0,0)))(i:Nat)(u:Value):(w.setCell ⟨g,i,none⟩ u).heap[g]? =some (.cells (cs.setIfInBounds i u) t (0,0)):=by
 simp[World.setCell,Array.getElem?_modify,h]
theorem arr_lit (t:Array Value){n:Nat}(h:t.size=n):t=((List.range n).map fun i=>t.getD i undef).toArray:=by
 apply Array.ext
 ·simp[h]
 ·intro i h1 h2
  simp[Array.getD,h1]
theorem nbeq {a b:Nat}(h:a=b):((a:Int)==(b:Int))=true:=by rw[beq_iff_eq];omega
theorem nbeq_no {a b:Nat}(h:¬a=b):((a:Int)==(b:Int))=false:=by rw[beq_eq_false_iff_ne];omega
theorem nbne {a b:Nat}(h:¬a=b):((a:Int) !=(b:Int))=true:=by rw[bne_iff_ne];omega
theorem nbne_no {a b:Nat}(h:a=b):((a:Int) !=(b:Int))=false:=by rw[bne_eq_false_iff_eq];omega
theorem ibeq {a b:Int}(h:a=b):(a==b)=true:=beq_iff_eq.2 h
theorem ibeq_no {a b:Int}(h:¬a=b):(a==b)=false:=beq_eq_false_iff_ne.2 h
theorem ibne {a b:Int}(h:¬a=b):(a !=b)=true:=bne_iff_ne.2 h
theorem ibne_no {a b:Int}(h:a=b):(a !=b)=false:=by rw[bne_eq_false_iff_eq];exact h
end Go.Proofs.YtfmiioddhpkdkaaGreat
