/- Merged texts: Co17, Cm12, Cm13. -/
import Derived.Test.YtfmiioddhpkdkaaGreatWh22
set_option linter.unusedVariables false
set_option linter.unusedSimpArgs false
namespace Go.Proofs.YtfmiioddhpkdkaaGreat.Co
open Go.RowKit Go.Proofs.YtfmiioddhpkdkaaGreat.Ara Go.Proofs.YtfmiioddhpkdkaaGreat.Lok Go.Proofs.YtfmiioddhpkdkaaGreat.Fl
structure Gr (d:Nat)(σ σ':Ar):Prop where
 t:σ.t≤σ'.t
 len:σ'.ws.length=σ.ws.length
 hl:σ'.t≤σ'.ws.length
 get:∀q:Int,q≤σ.t→σ'.get q=σ.get q
 z:(∀k,σ.t≤k→σ.ws.getD k 0=0)→∀k,σ'.t≤k→σ'.ws.getD k 0=0
 ops:σ.ops≤σ'.ops∧σ'.ops≤σ.ops+d
theorem get_more {σ:Ar}{t':Nat}(h:σ.t≤t'){q:Int}(hq:q≤σ.t):({σ with t:=t'}:Ar).get q=σ.get q:=by
 have e:({σ with t:=t'}:Ar).has q=σ.has q:=by
  show(decide (1≤q)&&decide (q≤(t':Int)))=(decide (1≤q)&&decide (q≤(σ.t:Int)));rw[decide_eq_true (show q≤(t':Int) by omega),decide_eq_true hq]
 unfold Ar.get;rw[e]
theorem Gr.refl {σ:Ar}(h:σ.t≤σ.ws.length):Gr 0 σ σ:=⟨Nat.le_refl _,rfl,h,fun _ _=>rfl,fun h=>h,Nat.le_refl _,Nat.le_refl _⟩
theorem Gr.trans {a b:Nat}{σ σ' σ'':Ar}(h:Gr a σ σ')(k:Gr b σ' σ''):Gr (a+b) σ σ'':=
 ⟨Nat.le_trans h.t k.t,k.len.trans h.len,k.hl,fun q hq=>(k.get q (by have:=h.t;omega)).trans (h.get q hq),fun hz=>k.z (h.z hz),by have:=h.ops;have:=k.ops;omega⟩
theorem Gr.le {a b:Nat}{σ σ':Ar}(h:Gr a σ σ')(hab:a≤b):Gr b σ σ':=⟨h.t,h.len,h.hl,h.get,h.z,by have:=h.ops;omega⟩
theorem gr_more {σ:Ar}{m:Nat}(h:σ.t+m≤σ.ws.length):Gr 0 σ {σ with t:=σ.t+m}:=
 ⟨by show σ.t≤σ.t+m;omega,rfl,h,fun q hq=>get_more (Nat.le_add_right _ _) hq,fun hz k hk=>hz k (by have:σ.t+m≤k:=hk;omega),Nat.le_refl _,Nat.le_refl _⟩
theorem Gr.op {σ σ':Ar}(h:Gr 0 σ σ')(kd p v:Int)(hp:(σ.t:Int)<p):Gr 1 σ (σ'.op kd p true v):=by
 have ho:=op_ops σ' kd p v true;have h0:=h.ops;refine⟨by rw[op_t];exact h.t,by rw[op_len];exact h.len,by rw[op_t,op_len];exact h.hl,fun q hq=> ?_,fun hz k hk=> ?_,?_⟩
 ·rw[get_op _ h.hl,if_neg (by omega)]
  exact h.get q hq
 ·rw[op_t]at hk
  unfold Ar.op;by_cases hh:σ'.has p=true
  ·rw[if_pos hh]
   have h2:=hh;unfold Ar.has at h2;rw[Bool.and_eq_true,decide_eq_true_eq,decide_eq_true_eq]at h2;show(σ'.ws.set (p-1).toNat v).getD k 0=0;rw[List.getD_eq_getElem?_getD,List.getElem?_set_ne (by omega),←List.getD_eq_getElem?_getD];exact h.z hz k hk
  ·rw[if_neg hh]
   exact h.z hz k hk
 ·rw[ho]
  split<;>omega
def tak (kind:Int)(n:Nat)(par:Int)(σ:Ar):Ar×List Sp:=firstK kind n par (σ.t+1) {σ with t:=σ.t+sizeK kind n par}
section
variable {kind par:Int}{n:Nat}{σ:Ar}(hM:mayK kind n par)(hr:σ.t+sizeK kind n par≤σ.ws.length)
include hM hr
theorem tak_gr:Gr 1 σ (tak kind n par σ).1∧(tak kind n par σ).1.t=σ.t+sizeK kind n par:=by
 obtain⟨⟨k1,k5⟩,⟨n1,n2⟩,ha1,ha3⟩:=hM;have g:=gr_more hr;rcases(show kind=1∨kind=2∨kind=3∨kind=4∨kind=5 by omega)with rfl|rfl|rfl|rfl|rfl
 ·exact⟨g.le (by omega),rfl⟩
 ·exact⟨g.le (by omega),rfl⟩
 ·obtain⟨p1,p2⟩:=ha3 rfl
  refine⟨g.op 2 _ _ ?_,by show(Ar.op _ _ _ _ _).t=_;rw[op_t]⟩;obtain⟨x,x0,x1,e⟩:=Pt.place_in (P:=⟨((σ.t+1:Nat):Int),par⟩) p1 0;show(σ.t:Int)<Pt.place ⟨((σ.t+1:Nat):Int),par⟩ 0;rw[e];show(σ.t:Int)<((σ.t+1:Nat):Int)+1+x;omega
 ·exact⟨g.le (by omega),rfl⟩
 ·exact⟨g.op 2 _ _ (by omega),by show(Ar.op _ _ _ _ _).t=_;rw[op_t]⟩
theorem tak_zero (i:Int):(spOf (tak kind n par σ).2 i).pc=0:=by
 obtain⟨⟨k1,k5⟩,⟨n1,n2⟩,ha1,ha3⟩:=hM;have hz0:∀i,(spOf (List.replicate n sp0) i).pc=0:=fun i=>by rw[Pt.zero_spot];rfl
 rcases(show kind=1∨kind=2∨kind=3∨kind=4∨kind=5 by omega)with rfl|rfl|rfl|rfl|rfl
 ·exact hz0 i
 ·exact hz0 i
 ·exact hz0 i
 ·exact hz0 i
 ·show(spOf (Cl.first0 n) i).pc=0
  rw[Cl.first0_spot];split<;>rfl
end
structure Nw where
 kg:Int
 kl:Int
 par:Int
 B:Int
 NN:Nat
 T:Nat
 mt:Nat→Nat
 nd:Nat→Nat
 sl:Nat→Nat
def Nw.tN (c:Nw)(t0:Nat):Nat→Nat
 |0=>t0+sizeK c.kg c.NN c.par
 |n+1=>c.tN t0 n+sizeK c.kl (c.mt n) c.par+1
def Nw.σN (c:Nw)(σ0:Ar):Nat→Ar
 |0=>(tak c.kg c.NN c.par σ0).1
 |n+1=> {(tak c.kl (c.mt n) c.par (c.σN σ0 n)).1 with t:=(tak c.kl (c.mt n) c.par (c.σN σ0 n)).1.t+1}
def Nw.pm (c:Nw)(σ0:Ar):Pm:=⟨c.NN,c.T,pkK c.kg c.par (σ0.t+1),fun n=>pkK c.kl c.par ((c.σN σ0 n).t+1),c.mt,fun n=>((c.σN σ0 (n+1)).t:Int),c.nd,c.sl,c.B⟩
def Nw.st (c:Nw)(σ0:Ar):CS:=⟨c.σN σ0 c.NN,(tak c.kg c.NN c.par σ0).2,fun n=>(tak c.kl (c.mt n) c.par (c.σN σ0 n)).2,List.replicate c.T sp0⟩
structure Nw.Ok (c:Nw):Prop where
 g:mayK c.kg c.NN c.par
 l:∀n,n<c.NN→mayK c.kl (c.mt n) c.par
 nd:∀t,t<c.T→c.nd t<c.NN∧c.sl t<c.mt (c.nd t)
 inj:∀t u,t<c.T→u<c.T→c.nd t=c.nd u→c.sl t=c.sl u→t=u
 B0:0≤c.B
theorem Nw.tN_le (c:Nw)(t0:Nat){n k:Nat}(h:n≤k):c.tN t0 n≤c.tN t0 k:=by
 induction k with
 |zero=>obtain rfl:n=0:=by omega
        exact Nat.le_refl _
 |succ k ih=>
  by_cases e:n=k+1
  ·rw[e];exact Nat.le_refl _
  ·have:=ih (by omega)
   show _≤c.tN t0 k+sizeK c.kl (c.mt k) c.par+1;omega
section
variable {c:Nw}(O:c.Ok){σ0:Ar}(hr:c.tN σ0.t c.NN≤σ0.ws.length)
include O hr
theorem Nw.σ_gr:∀n,n≤c.NN→Gr (n+1) σ0 (c.σN σ0 n)∧(c.σN σ0 n).t=c.tN σ0.t n
 |0,_=>by
  have h0:=c.tN_le σ0.t (Nat.zero_le c.NN);have e:c.tN σ0.t 0=σ0.t+sizeK c.kg c.NN c.par:=rfl;have:=tak_gr O.g (σ:=σ0) (by omega);exact⟨this.1,this.2⟩
 |n+1,hn=>by
  obtain⟨g,ht⟩:=Nw.σ_gr n (by omega);have h0:=c.tN_le σ0.t hn;have e:c.tN σ0.t (n+1)=c.tN σ0.t n+sizeK c.kl (c.mt n) c.par+1:=rfl;have hlen:=g.len;obtain⟨g1,ht1⟩:=tak_gr (O.l n (by omega)) (σ:=c.σN σ0 n) (by omega);have hlen1:=g1.len;have g2:=gr_more (σ:=(tak c.kl (c.mt n) c.par (c.σN σ0 n)).1) (m:=1) (by omega);refine⟨(g.trans (g1.trans g2)).le (by omega),?_⟩;show(tak c.kl (c.mt n) c.par (c.σN σ0 n)).1.t+1=_;omega
theorem Nw.room {n:Nat}(hn:n<c.NN):(c.σN σ0 n).t+sizeK c.kl (c.mt n) c.par+1≤(c.σN σ0 n).ws.length:=by
 obtain⟨g,ht⟩:=Nw.σ_gr O hr n (by omega);have h0:=c.tN_le σ0.t (show n+1≤c.NN from hn);have e:c.tN σ0.t (n+1)=c.tN σ0.t n+sizeK c.kl (c.mt n) c.par+1:=rfl;rw[g.len];omega
omit O in
theorem Nw.room0:σ0.t+sizeK c.kg c.NN c.par≤σ0.ws.length:=by
 have h0:=c.tN_le σ0.t (Nat.zero_le c.NN);have e:c.tN σ0.t 0=σ0.t+sizeK c.kg c.NN c.par:=rfl;omega
theorem Nw.σ_up {n:Nat}:∀k,n≤k→k≤c.NN→Gr (k-n) (c.σN σ0 n) (c.σN σ0 k)
 |0,h,hk=>by
  obtain rfl:n=0:=by omega
  exact(Gr.refl (Nw.σ_gr O hr 0 hk).1.hl).le (Nat.zero_le _)
 |k+1,h,hk=>by
  by_cases e:n=k+1
  ·subst e
   exact(Gr.refl (Nw.σ_gr O hr _ hk).1.hl).le (Nat.zero_le _)
  ·have g:=Nw.σ_up (n:=n) k (by omega) (by omega)
   have hroom:=Nw.room O hr (show k<c.NN by omega);obtain⟨g1,ht1⟩:=tak_gr (O.l k (by omega)) (σ:=c.σN σ0 k) (by omega);have hlen1:=g1.len;have g2:=gr_more (σ:=(tak c.kl (c.mt k) c.par (c.σN σ0 k)).1) (m:=1) (by omega);exact(g.trans (g1.trans g2)).le (by omega)
theorem Nw.σ_fin {n:Nat}(hn:n<c.NN):Gr (c.NN-n) (tak c.kl (c.mt n) c.par (c.σN σ0 n)).1 (c.σN σ0 c.NN):=by
 have hroom:=Nw.room O hr hn;obtain⟨g1,ht1⟩:=tak_gr (O.l n hn) (σ:=c.σN σ0 n) (by omega);have hlen1:=g1.len;have g2:=gr_more (σ:=(tak c.kl (c.mt n) c.par (c.σN σ0 n)).1) (m:=1) (by omega);have g3:=Nw.σ_up O hr (n:=n+1) c.NN hn (Nat.le_refl _);exact(g2.trans (show Gr _ {(tak c.kl (c.mt n) c.par (c.σN σ0 n)).1 with t:=(tak c.kl (c.mt n) c.par (c.σN σ0 n)).1.t+1} _ from g3)).le (by omega)
omit hr in
theorem Nw.in_g {q:Int}(h:inR (c.pm σ0).pg c.NN q):(σ0.t:Int)<q∧q≤c.tN σ0.t 0:=by
 have h1:=inR_new O.g (a:=σ0.t+1) h;have e:c.tN σ0.t 0=σ0.t+sizeK c.kg c.NN c.par:=rfl;omega
theorem Nw.in_l {n:Nat}(hn:n<c.NN){q:Int}(h:inR ((c.pm σ0).pl n) (c.mt n) q):(c.tN σ0.t n:Int)<q∧q<c.tN σ0.t (n+1):=by
 have h1:=inR_new (O.l n hn) (a:=(c.σN σ0 n).t+1) h;have e:c.tN σ0.t (n+1)=c.tN σ0.t n+sizeK c.kl (c.mt n) c.par+1:=rfl;have:=(Nw.σ_gr O hr n (by omega)).2;omega
theorem Nw.cw_eq {n:Nat}(hn:n<c.NN):(c.pm σ0).cw n=c.tN σ0.t (n+1):=by
 have:=(Nw.σ_gr O hr (n+1) hn).2;show((c.σN σ0 (n+1)).t:Int)=_;omega
theorem Nw.dj:Dj (c.pm σ0):=by
 have hm:=fun n k (h:n≤k)=>c.tN_le σ0.t h;refine⟨fun n hn q h h2=> ?_,fun n k hn hk hne q h h2=> ?_,fun n hn h=> ?_,fun n k hn hk h=> ?_,fun n k hn hk h=> ?_,O.nd,O.inj,O.B0⟩
 ·have:=Nw.in_l O hr hn h
  have:=Nw.in_g O h2;have:=hm 0 n (Nat.zero_le _);omega
 ·have h3:=Nw.in_l O hr hn h
  have h4:=Nw.in_l O hr hk h2;rcases Nat.lt_or_gt_of_ne hne with h5|h5
  ·have:=hm (n+1) k h5;omega
  ·have:=hm (k+1) n h5;omega
 ·have h1:=Nw.in_g O h
  rw[Nw.cw_eq O hr hn]at h1;have:=hm 0 n (Nat.zero_le _);have e:c.tN σ0.t (n+1)=c.tN σ0.t n+sizeK c.kl (c.mt n) c.par+1:=rfl;omega
 ·have h1:=Nw.in_l O hr hk h
  rw[Nw.cw_eq O hr hn]at h1;rcases Nat.lt_or_ge n k with h5|h5
  ·have:=hm (n+1) k h5;omega
  ·have:=hm (k+1) (n+1) (by omega);omega
 ·rw[Nw.cw_eq O hr hn,Nw.cw_eq O hr hk]at h
  rcases Nat.lt_trichotomy n k with h5|h5|h5
  ·have:=hm (n+1) k h5
   have e:c.tN σ0.t (k+1)=c.tN σ0.t k+sizeK c.kl (c.mt k) c.par+1:=rfl;omega
  ·exact h5
  ·have:=hm (k+1) n h5
   have e:c.tN σ0.t (n+1)=c.tN σ0.t n+sizeK c.kl (c.mt n) c.par+1:=rfl;omega
variable(hz:∀k,σ0.t≤k→σ0.ws.getD k 0=0)(hw:σ0.ws.length≤4096)
include hz hw
theorem Nw.ok_g {m:Nat}(hm:σ0.ops+c.NN≤m):OkK (c.pm σ0).pg (c.st σ0).σ (c.st σ0).g c.NN m:=by
 have g:=Nw.σ_up O hr (n:=0) c.NN (Nat.zero_le _) (Nat.le_refl _);have g0:=(Nw.σ_gr O hr 0 (Nat.zero_le _)).1.ops;have ht:=(Nw.σ_gr O hr 0 (Nat.zero_le _)).2;have h:=ok_flat c.kg c.NN c.par O.g σ0 hz (Nw.room0 hr) hw σ0.ops (Nat.le_refl _);have h:OkK (c.pm σ0).pg (c.σN σ0 0) (c.st σ0).g c.NN σ0.ops:=h;have go:=g.ops;refine h.al ⟨fun q hq=>g.get q ?_,g.t,g.hl⟩ (show(c.σN σ0 c.NN).ops≤m+1 by omega) (by omega);have:=Nw.in_g O hq;omega
theorem Nw.ok_l {m:Nat}(hm:σ0.ops+c.NN+1≤m){n:Nat}(hn:n<c.NN):OkK ((c.pm σ0).pl n) (c.st σ0).σ ((c.st σ0).loc n) (c.mt n) m:=by
 have g:=Nw.σ_fin O hr hn;obtain⟨g0,ht⟩:=Nw.σ_gr O hr n (by omega);have h0:=g0.ops;have hroom:=Nw.room O hr hn;have h:=ok_flat c.kl (c.mt n) c.par (O.l n hn) (c.σN σ0 n) (g0.z hz) (by omega) (by rw[g0.len];exact hw) (c.σN σ0 n).ops (Nat.le_refl _);have h:OkK ((c.pm σ0).pl n) (tak c.kl (c.mt n) c.par (c.σN σ0 n)).1 ((c.st σ0).loc n) (c.mt n) (c.σN σ0 n).ops:=h;have go:=g.ops;obtain⟨g1,ht1⟩:=tak_gr (O.l n hn) (σ:=c.σN σ0 n) (by omega);have g1o:=g1.ops;refine h.al ⟨fun q hq=>g.get q ?_,g.t,g.hl⟩ (show(c.σN σ0 c.NN).ops≤m+1 by omega) (by omega);have h1:=Nw.in_l O hr hn hq;have e:c.tN σ0.t (n+1)=c.tN σ0.t n+sizeK c.kl (c.mt n) c.par+1:=rfl;omega
omit hw in
theorem Nw.cw_zero {n:Nat}(hn:n<c.NN):cnW (c.pm σ0) (c.st σ0) n=0:=by
 have g:=Nw.σ_up O hr (n:=n+1) c.NN hn (Nat.le_refl _);have hroom:=Nw.room O hr hn;obtain⟨g0,ht⟩:=Nw.σ_gr O hr n (by omega);obtain⟨g1,ht1⟩:=tak_gr (O.l n hn) (σ:=c.σN σ0 n) (by omega);have h1:=g.get ((c.σN σ0 (n+1)).t:Int) (Int.le_refl _);show(c.σN σ0 c.NN).get ((c.σN σ0 (n+1)).t:Int)=0;rw[h1];have e:(c.σN σ0 (n+1)).ws=(tak c.kl (c.mt n) c.par (c.σN σ0 n)).1.ws:=rfl;have e2:(c.σN σ0 (n+1)).t=(tak c.kl (c.mt n) c.par (c.σN σ0 n)).1.t+1:=rfl;unfold Ar.get;split
 ·rw[e,e2]
  exact g1.z (g0.z hz) _ (by omega)
 ·rfl
theorem Nw.ci {m:Nat}(hm:σ0.ops+c.NN+1≤m):CI (c.pm σ0) (c.st σ0) m:=by
 obtain⟨gN,htN⟩:=Nw.σ_gr O hr c.NN (Nat.le_refl _)
 have hpT:∀t,pcT (c.st σ0) t=0:=fun t=>by
  show(spOf (List.replicate c.T sp0) (t:Int)).pc=0;rw[Pt.zero_spot];rfl
 have hpL:∀t,t<c.T→pcL (c.pm σ0) (c.st σ0) t=0:=fun t ht=>by
  have hn:=(O.nd t ht).1;have hrm:=Nw.room O hr hn;exact tak_zero (σ:=c.σN σ0 (c.nd t)) (O.l _ hn) (by omega) _
 have hpG:∀n:Nat,pcG (c.st σ0) n=0:=fun n=>tak_zero O.g (Nw.room0 hr) _;have hc0:=fun n (hn:n<c.NN)=>Nw.cw_zero O hr hz hn;refine⟨Nw.ok_g O hr hz hw (by omega),fun n hn=>Nw.ok_l O hr hz hw hm hn,List.length_replicate,gN.hl,fun n hn=> ?_,fun t ht=> .inl ⟨hpT t,hpL t ht⟩,fun t ht=> ?_,fun n hn _=> .inl ⟨hc0 n hn,hpG n⟩,fun n hn=> ?_,?_⟩
 ·rw[Nw.cw_eq O hr hn]
  have h1:=c.tN_le σ0.t (show n+1≤c.NN from hn);have e:c.tN σ0.t (n+1)=c.tN σ0.t n+sizeK c.kl (c.mt n) c.par+1:=rfl;show(decide _&&decide (_≤((c.σN σ0 c.NN).t:Int)))=true;rw[htN,decide_eq_true (by omega),decide_eq_true (by omega)];rfl
 ·unfold nodP
  rw[hpT t];omega
 ·rw[hc0 n hn]
  have:0≤c.B:=O.B0;exact⟨Int.le_refl _,by show 0≤c.B+1;omega⟩
 ·have:=gN.ops
  show(c.σN σ0 c.NN).ops≤m+1;omega
end
end Go.Proofs.YtfmiioddhpkdkaaGreat.Co
namespace Go.Proofs.YtfmiioddhpkdkaaGreat.Cm
open Go.RowKit Go.Proofs.YtfmiioddhpkdkaaGreat.Ara Go.Proofs.YtfmiioddhpkdkaaGreat.Lok Go.Proofs.YtfmiioddhpkdkaaGreat.Fl Go.Proofs.YtfmiioddhpkdkaaGreat.Co
structure Bl where
 gl:Nat
 gt:Nat
 gn:Nat
 gs:Nat
 gm:Nat
 hs:Nat
 ga:Nat
 ha:Nat
 gf:Nat
 gk:Nat
 gh:Nat
 gp:Nat
 tA:Option Addr
 tB:Option Addr
 lA:Nat
 tc:Nat
 td:Nat
 vu:Value
 cn:Nat
 cs:Nat
def ndCells (c:Nw)(σ0:Ar)(lf:Nat→Nat)(k:Nat):List Value:=(List.range k).flatMap fun n=> [.pointer (some ⟨lf n,0,none⟩),.int .i64 ((c.pm σ0).cw n)]
def nwCells (b:Bl)(c:Nw)(vg v:Value):Array Value:= #[.pointer (some ⟨b.ga,0,none⟩),.pointer (some ⟨b.gt,0,none⟩),.int .i64 c.kg,.int .i64 c.kl,.int .i64 c.par,.int .i64 c.B,vg,v,.slice (some ⟨b.hs,0,none⟩) c.T c.T]
structure NwW (w:World)(B0:Nat)(b:Bl)(c:Nw)(σ0:Ar)(ms:List Int)(j k:Nat)(σ:Ar)(lf lk lh col:Nat→Nat)(v:Value)(W:World):Prop where
 lk_:W.heap[b.gl]? =some (.cells (nwCells b c (.pointer (some ⟨b.gf,0,none⟩)) v) 176 (0,0))
 pr:W.heap[b.gp]? =some (.cells #[.int .i64 c.kg,.int .i64 c.kl,.int .i64 c.par,.int .i64 c.B] 56 (0,0))
 tb:Pa.TbB W b.gt (.slice b.tA b.lA b.tc) (.slice b.tB c.T b.td) 1 0 b.vu (.slice (some ⟨b.gn,0,none⟩) c.T b.cn) (.slice (some ⟨b.gs,0,none⟩) c.T b.cs) (.slice (some ⟨b.gm,0,none⟩) c.NN c.NN)
 rn:∀k,k<c.T→W.cell? ⟨b.gn,k,none⟩=some (.int .i64 (c.nd k:Int))
 rs:∀k,k<c.T→W.cell? ⟨b.gs,k,none⟩=some (.int .i64 (c.sl k:Int))
 rm:∀n,n<c.NN→W.cell? ⟨b.gm,n,none⟩=some (.int .i64 (ms.getD n 0))
 ar:ArAt W b.ga b.ha σ
 sp:SpAt W b.hs (List.replicate c.T sp0)
 fg:FLAt W b.gf b.gk b.ga b.ha b.gh (c.pm σ0).pg σ (tak c.kg c.NN c.par σ0).2
 fl:∀n,n<j→FLAt W (lf n) (lk n) b.ga b.ha (lh n) ((c.pm σ0).pl n) σ (tak c.kl (c.mt n) c.par (c.σN σ0 n)).2
 nr:W.ownsRow B0 179 2 v k (ndCells c σ0 lf k)
 cv:∀q,v.ownBlock=some q→col q=0∧∀n,n<j→q≠lf n∧q≠lk n∧q≠lh n
 c0:(col b.gl=0∧col b.gt=0∧col b.gn=0∧col b.gs=0)∧(col b.gm=0∧col b.gf=0∧col b.gk=0∧col b.gp=0)
 cl:∀n,n<j→col (lf n)=0∧col (lk n)=0∧col (lh n)=5+n
 ch:col b.ga=1∧col b.ha=2∧col b.hs=3∧col b.gh=4
 pre:((b.gl<B0∧b.gt<B0∧b.gn<B0∧b.gs<B0)∧(b.gm<B0∧b.gf<B0∧b.gk<B0∧b.gp<B0))∧(b.ga<B0∧b.ha<B0∧b.hs<B0∧b.gh<B0)
 sz:w.heap.size≤B0∧B0≤W.heap.size
 fresh:∀q,W.heap.size≤q→col q=0
 old:∀q,q<w.heap.size→q≠b.ga→q≠b.ha→col q=0
 md:Mod [b.ga,b.ha] w W
 gl0:w.heap.size≤b.gl
 gne:(b.gl≠b.gt∧b.gl≠b.gn∧b.gl≠b.gs∧b.gl≠b.gm)∧b.gl≠b.gf∧b.gl≠b.gk∧b.gl≠b.gp
 lo:∀n,n<j→B0≤lf n∧B0≤lk n∧B0≤lh n
theorem ndCells_succ (c:Nw)(σ0:Ar)(lf:Nat→Nat)(k:Nat):ndCells c σ0 lf (k+1)=ndCells c σ0 lf k++ [.pointer (some ⟨lf k,0,none⟩),.int .i64 ((c.pm σ0).cw k)]:=by
 unfold ndCells;rw[List.range_succ,List.flatMap_append];simp
theorem ndCells_same (c:Nw)(σ0:Ar){lf lf':Nat→Nat}{k:Nat}(h:∀n,n<k→lf' n=lf n):ndCells c σ0 lf' k=ndCells c σ0 lf k:=by
 induction k with
 |zero=>rfl
 |succ k ih=>rw[ndCells_succ,ndCells_succ,ih (fun n hn=>h n (by omega)),h k (by omega)]
section
variable {w:World}{B0:Nat}{b:Bl}{c:Nw}{σ0:Ar}{ms:List Int}{j k:Nat}{σ σ':Ar}{lf lk lh col:Nat→Nat}{v:Value}{W W':World}(h:NwW w B0 b c σ0 ms j k σ lf lk lh col v W)
include h
theorem NwW.ne {q:Nat}(hq:col q≠1∧col q≠2):q∉ [b.ga,b.ha]:=fun hm=>by
 obtain⟨h1,h2,_,_⟩:=h.ch;simp at hm;rcases hm with e|e<;>(rw[e]at hq;omega)
theorem NwW.wrd (ha:ArAt W' b.ga b.ha σ')(hm:Mod [b.ga,b.ha] W W'):NwW w B0 b c σ0 ms j k σ' lf lk lh col v W':=by
 obtain⟨⟨a1,a2,a3,a4⟩,a5,a6,a7,a8⟩:=h.c0;obtain⟨h1,h2,h3,h4⟩:=h.ch;obtain⟨⟨⟨p1,p2,p3,p4⟩,p5,p6,p7,p8⟩,p9,p10,p11,p12⟩:=h.pre;obtain⟨z1,z2⟩:=h.sz;have ne:=fun q hq=>h.ne (q:=q) hq;have hsz:=hm.size
 refine⟨hm.blk h.lk_ (ne _ (by omega)),hm.blk h.pr (ne _ (by omega)),h.tb.mod hm (ne _ (by omega)),fun k hk=>(Pa.cell_mod hm (p:=⟨b.gn,k,none⟩) (by show b.gn<_;omega) (ne _ (by show col b.gn≠1∧col b.gn≠2;omega))).trans (h.rn k hk),fun k hk=>(Pa.cell_mod hm (p:=⟨b.gs,k,none⟩) (by show b.gs<_;omega) (ne _ (by show col b.gs≠1∧col b.gs≠2;omega))).trans (h.rs k hk),
  fun k hk=>(Pa.cell_mod hm (p:=⟨b.gm,k,none⟩) (by show b.gm<_;omega) (ne _ (by show col b.gm≠1∧col b.gm≠2;omega))).trans (h.rm k hk),ha,h.sp.mod hm (ne _ (by omega)),h.fg.arena hm (ne _ (by omega)) (ne _ (by omega)) (ne _ (by omega)) ha,fun n hn=> ?_,Tp.own_apart h.nr hm (fun q hq=>ne _ (by have:=(h.cv q hq).1;omega)),h.cv,h.c0,h.cl,h.ch,h.pre,⟨z1,by omega⟩,fun q hq=>h.fresh q (by omega),h.old,h.md.trans hm,h.gl0,h.gne,h.lo⟩
 obtain⟨b1,b2,b3⟩:=h.cl n hn;exact(h.fl n hn).arena hm (ne _ (by omega)) (ne _ (by omega)) (ne _ (by omega)) ha
theorem NwW.same (hb:Below W.heap.size W W'):NwW w B0 b c σ0 ms j k σ lf lk lh col v W':=h.wrd (h.ar.step hb) (Mod.of_below hb)
theorem NwW.mk1 (hkj:k≤j){gf gk gh:Nat}(hf:FLAt W' gf gk b.ga b.ha gh ((c.pm σ0).pl j) σ' (tak c.kl (c.mt j) c.par (c.σN σ0 j)).2)(hg:W.heap.size≤gf∧W.heap.size≤gk∧W.heap.size≤gh)(hm:Mod [b.ga,b.ha] W W'):
 NwW w B0 b c σ0 ms (j+1) k σ' (upd lf j gf) (upd lk j gk) (upd lh j gh) (upd col gh (5+j)) v W':=by
 obtain⟨⟨⟨p1,p2,p3,p4⟩,p5,p6,p7,p8⟩,p9,p10,p11,p12⟩:=h.pre;obtain⟨z1,z2⟩:=h.sz;obtain⟨⟨a1,a2,a3,a4⟩,a5,a6,a7,a8⟩:=h.c0;obtain⟨h1,h2,h3,h4⟩:=h.ch;obtain⟨g1,g2,g3⟩:=hg;have H1:=h.wrd hf.at_.facts.1 hm;have up:∀q,q<W.heap.size→upd col gh (5+j) q=col q:=fun q hq=>upd_other _ _ (by omega);have uf:∀(f:Nat→Nat) (x n:Nat),n<j→upd f j x n=f n:=fun f x n hn=>upd_other _ _ (by omega);have hb:=hf.blocks;have hsz:=hm.size;refine⟨H1.lk_,H1.pr,H1.tb,H1.rn,H1.rs,H1.rm,H1.ar,H1.sp,H1.fg,fun n hn=> ?_,?_,fun q hq=> ?_,?_,fun n hn=> ?_,?_,h.pre,H1.sz,fun q hq=> ?_,fun q hq q1 q2=> ?_,H1.md,h.gl0,h.gne,fun n hn=> ?_⟩
 ·by_cases e:n=j
  ·subst e
   rw[upd_self,upd_self,upd_self];exact hf
  ·rw[uf _ _ n (by omega),uf _ _ n (by omega),uf _ _ n (by omega)]
   exact H1.fl n (by omega)
 ·rw[ndCells_same c σ0 (lf:=lf) (fun n hn=>uf _ _ n (by omega))]
  exact H1.nr
 ·have hq2:=(Tp.own_block h.nr hq).2
  rw[up q hq2];refine⟨(h.cv q hq).1,fun n hn=> ?_⟩;by_cases e:n=j
  ·subst e
   rw[upd_self,upd_self,upd_self];omega
  ·rw[uf _ _ n (by omega),uf _ _ n (by omega),uf _ _ n (by omega)]
   exact(h.cv q hq).2 n (by omega)
 ·rw[up _ (by omega),up _ (by omega),up _ (by omega),up _ (by omega),up _ (by omega),up _ (by omega),up _ (by omega),up _ (by omega)]
  exact h.c0
 ·by_cases e:n=j
  ·subst e
   have e1:=hf.n3;have e2:=hf.at_.facts.2.2.2.2.2.2.1;rw[upd_self,upd_self,upd_self,upd_self,upd_other _ _ e1,upd_other _ _ e2];exact⟨h.fresh _ g1,h.fresh _ g2,rfl⟩
  ·have hn':n<j:=by omega
   have hb:=(h.fl n hn').blocks;rw[uf _ _ n hn',uf _ _ n hn',uf _ _ n hn',up _ (by omega),up _ (by omega),up _ (by omega)];exact h.cl n hn'
 ·rw[up _ (by omega),up _ (by omega),up _ (by omega),up _ (by omega)]
  exact h.ch
 ·rw[upd_other _ _ (by omega)]
  exact h.fresh q (by omega)
 ·rw[up q (by omega)]
  exact h.old q hq q1 q2
 ·by_cases e:n=j
  ·subst e
   rw[upd_self,upd_self,upd_self];omega
  ·rw[uf _ _ n (by omega),uf _ _ n (by omega),uf _ _ n (by omega)]
   exact h.lo n (by omega)
theorem NwW.app (hkj:k<j){v':Value}(hown:W'.ownsRow B0 179 2 v' (k+1) (ndCells c σ0 lf k++ [.pointer (some ⟨lf k,0,none⟩),.int .i64 ((c.pm σ0).cw k)]))(hg:W.grownBy W' v.ownBlock)(hn:∀q,v'.ownBlock=some q→v.ownBlock=some q∨W.heap.size≤q):
 NwW w B0 b c σ0 ms j (k+1) σ lf lk lh col v' (W'.setCell ⟨b.gl,7,none⟩ v')∧W'.cell? ⟨b.gl,7,none⟩=some v∧W'.frozen? ⟨b.gl,7,none⟩=false:=by
 obtain⟨⟨⟨p1,p2,p3,p4⟩,p5,p6,p7,p8⟩,p9,p10,p11,p12⟩:=h.pre;obtain⟨z1,z2⟩:=h.sz;have hm:=Tp.grown_mod hg;have hS:∀x∈v.ownBlock.toList,v.ownBlock=some x:=by simp
 have hno:∀q,q<B0→q∉v.ownBlock.toList:=fun q hq hx=>by have:=(Tp.own_block h.nr (hS q hx)).1;omega
 have hsz:=hm.size;have hlk:=hm.blk h.lk_ (hno _ p1);have hm2:Mod [b.gl] W' (W'.setCell ⟨b.gl,7,none⟩ v'):=(Mod.refl _ _).setCell (by simp) _;have hsz2:=hm2.size;have nl:∀q,q≠b.gl→q∉ [b.gl]:=fun q hq hx=>hq (by simpa using hx);have cl0:=h.c0.1.1;have nc:∀q,col q≠0→q≠b.gl:=fun q hq e=>by rw[e]at hq;exact hq cl0
 obtain⟨h1,h2,h3,h4⟩:=h.ch
 have cell2:∀(q i:Nat),q<B0→q≠b.gl→(W'.setCell ⟨b.gl,7,none⟩ v').cell? ⟨q,i,none⟩=W.cell? ⟨q,i,none⟩:=fun q i hq hne=>
  (Pa.cell_mod hm2 (p:=⟨q,i,none⟩) (by show q<_;omega) (nl _ hne)).trans (Pa.cell_mod hm (p:=⟨q,i,none⟩) (by show q<_;omega) (hno _ hq))
 obtain⟨⟨n1,n2,n3,n4⟩,n5,n6,n7⟩:=h.gne;have two:∀ {T:TypeId} {q:Nat} {cs:Array Value},W.heap[q]? =some (.cells cs T (0,0))→q<B0→q≠b.gl→(W'.setCell ⟨b.gl,7,none⟩ v').heap[q]? =some (.cells cs T (0,0)):=fun a1 a2 a3=>hm2.blk (hm.blk a1 (hno _ a2)) (nl _ a3)
 have hvl:∀n,n<j→lf n∉v.ownBlock.toList∧lk n∉v.ownBlock.toList∧lh n∉v.ownBlock.toList:=fun n hn=>
  ⟨fun hx=>((h.cv _ (hS _ hx)).2 n hn).1 rfl,fun hx=>((h.cv _ (hS _ hx)).2 n hn).2.1 rfl,fun hx=>((h.cv _ (hS _ hx)).2 n hn).2.2 rfl⟩
 have hcol':∀q,v'.ownBlock=some q→col q=0∧∀n,n<j→q≠lf n∧q≠lk n∧q≠lh n:=fun q hq=>by
  rcases hn q hq with h9|h9
  ·exact h.cv q h9
  ·refine⟨h.fresh q h9,fun n hn=> ?_⟩
   have hb:=(h.fl n hn).blocks;omega
 have hgl7:=blk_cell hlk 7 (by simp[nwCells]);have hfz:=blk_free hlk 7
 refine⟨⟨?_,two h.pr p8 (fun e=>n7 e.symm),two h.tb p2 (fun e=>n1 e.symm),fun k hk=>(cell2 _ _ p3 (fun e=>n2 e.symm)).trans (h.rn k hk),fun k hk=>(cell2 _ _ p4 (fun e=>n3 e.symm)).trans (h.rs k hk),fun k hk=>(cell2 _ _ p5 (fun e=>n4 e.symm)).trans (h.rm k hk),
  (h.ar.mod hm (hno _ p9) (hno _ p10)).mod hm2 (nl _ (nc _ (by omega))) (nl _ (nc _ (by omega))),(h.sp.mod hm (hno _ p11)).mod hm2 (nl _ (nc _ (by omega))),
  (h.fg.mod hm (hno _ p6) (hno _ p7) (hno _ p9) (hno _ p10) (hno _ p12)).mod hm2 (nl _ (fun e=>n5 e.symm)) (nl _ (fun e=>n6 e.symm)) (nl _ (nc _ (by omega))) (nl _ (nc _ (by omega))) (nl _ (nc _ (by omega))),fun n hn=> ?_,?_,hcol',h.c0,h.cl,h.ch,h.pre,⟨z1,by omega⟩,fun q hq=>h.fresh q (by omega),h.old,?_,h.gl0,h.gne,h.lo⟩,hgl7,hfz⟩
 ·have:=blk_set hlk 7 v'
  simpa[nwCells]using this
 ·obtain⟨y1,y2,y3⟩:=hvl n hn
  obtain⟨x1,x2,x3⟩:=h.lo n hn;exact((h.fl n hn).mod hm y1 y2 (hno _ p9) (hno _ p10) y3).mod hm2 (nl _ (by omega)) (nl _ (by omega)) (nl _ (nc _ (by omega))) (nl _ (nc _ (by omega))) (nl _ (by omega))
 ·rw[ndCells_succ]
  exact Tp.own_apart hown hm2 (fun q hq=>nl _ (by have:=(Tp.own_block hown hq).1;omega))
 ·exact(h.md.of_grown hg (fun q hq=> .inl (by have:=(Tp.own_block h.nr hq).1;omega))).setNew (p:=⟨b.gl,7,none⟩) h.gl0 _
end
end Go.Proofs.YtfmiioddhpkdkaaGreat.Cm
namespace Go.Proofs.YtfmiioddhpkdkaaGreat.Cm
open Go.RowKit Go.Proofs.YtfmiioddhpkdkaaGreat.Ara Go.Proofs.YtfmiioddhpkdkaaGreat.Lok Go.Proofs.YtfmiioddhpkdkaaGreat.Fl Go.Proofs.YtfmiioddhpkdkaaGreat.Co
def col0 (b:Bl)(q:Nat):Nat:=if q=b.ga then 1 else if q=b.ha then 2 else if q=b.hs then 3 else if q=b.gh then 4 else 0
theorem col0_no {b:Bl}{q:Nat}(h1:q≠b.ga)(h2:q≠b.ha)(h3:q≠b.hs)(h4:q≠b.gh):col0 b q=0:=by
 unfold col0;rw[if_neg h1,if_neg h2,if_neg h3,if_neg h4]
structure Ord (w:World)(b:Bl)(M:Nat)(W:World):Prop where
 a:b.ga<w.heap.size∧b.ha<w.heap.size∧b.ga≠b.ha
 o:w.heap.size≤b.gp∧b.gp<b.gt∧b.gt<b.hs∧b.hs<b.gl
 r:(b.gl<b.gn∧b.gl<b.gs∧b.gl<b.gm)∧(b.gn<M∧b.gs<M∧b.gm<M)
 f:(M≤b.gf∧M≤b.gk∧M≤b.gh)∧(b.gf<W.heap.size∧b.gk<W.heap.size∧b.gh<W.heap.size)∧b.gf≠b.gh∧b.gk≠b.gh
theorem nw_start {w:World}{b:Bl}{c:Nw}{σ0:Ar}{ms:List Int}{M:Nat}{W:World}(o:Ord w b M W)
 (hlk:W.heap[b.gl]? =some (.cells (nwCells b c (.pointer none) (.slice none 0 0)) 176 (0,0)))
 (hpr:W.heap[b.gp]? =some (.cells #[.int .i64 c.kg,.int .i64 c.kl,.int .i64 c.par,.int .i64 c.B] 56 (0,0)))
 (htb:Pa.TbB W b.gt (.slice b.tA b.lA b.tc) (.slice b.tB c.T b.td) 1 0 b.vu (.slice (some ⟨b.gn,0,none⟩) c.T b.cn) (.slice (some ⟨b.gs,0,none⟩) c.T b.cs) (.slice (some ⟨b.gm,0,none⟩) c.NN c.NN))
 (hrn:∀k,k<c.T→W.cell? ⟨b.gn,k,none⟩=some (.int .i64 (c.nd k:Int))) (hrs:∀k,k<c.T→W.cell? ⟨b.gs,k,none⟩=some (.int .i64 (c.sl k:Int))) (hrm:∀n,n<c.NN→W.cell? ⟨b.gm,n,none⟩=some (.int .i64 (ms.getD n 0)))
 (hsp:SpAt W b.hs (List.replicate c.T sp0)) (hfg:FLAt W b.gf b.gk b.ga b.ha b.gh (c.pm σ0).pg (tak c.kg c.NN c.par σ0).1 (tak c.kg c.NN c.par σ0).2) (hmd:Mod [b.ga,b.ha] w W) (l0:Nat→Nat):
 NwW w W.heap.size b c σ0 ms 0 0 (c.σN σ0 0) l0 l0 l0 (col0 b) (.slice none 0 0) (W.setCell ⟨b.gl,6,none⟩ (.pointer (some ⟨b.gf,0,none⟩))):=by
 obtain⟨a1,a2,a3⟩:=o.a;obtain⟨o1,o2,o3,o4⟩:=o.o;obtain⟨⟨r1,r2,r3⟩,r4,r5,r6⟩:=o.r;obtain⟨⟨f1,f2,f3⟩,⟨f4,f5,f6⟩,f7,f8⟩:=o.f;have hm:Mod [b.gl] W (W.setCell ⟨b.gl,6,none⟩ (.pointer (some ⟨b.gf,0,none⟩))):=(Mod.refl _ _).setCell (by simp) _;have hsz:(W.setCell ⟨b.gl,6,none⟩ (.pointer (some ⟨b.gf,0,none⟩))).heap.size=W.heap.size:=by simp[World.setCell]
 have ne:∀q,q≠b.gl→q∉ [b.gl]:=fun q hq hx=>hq (by simpa using hx)
 refine⟨?_,hm.blk hpr (ne _ (by omega)),htb.mod hm (ne _ (by omega)),fun k hk=>(Pa.cell_mod hm (p:=⟨b.gn,k,none⟩) (by show b.gn<_;omega) (ne _ (by show b.gn≠_;omega))).trans (hrn k hk),fun k hk=>(Pa.cell_mod hm (p:=⟨b.gs,k,none⟩) (by show b.gs<_;omega) (ne _ (by show b.gs≠_;omega))).trans (hrs k hk),
  fun k hk=>(Pa.cell_mod hm (p:=⟨b.gm,k,none⟩) (by show b.gm<_;omega) (ne _ (by show b.gm≠_;omega))).trans (hrm k hk),hfg.at_.facts.1.mod hm (ne _ (by omega)) (ne _ (by omega)),hsp.mod hm (ne _ (by omega)),hfg.mod hm (ne _ (by omega)) (ne _ (by omega)) (ne _ (by omega)) (ne _ (by omega)) (ne _ (by omega)),fun n hn=>absurd hn (Nat.not_lt_zero n),World.ownsRow_nil _ _ _ _,fun q hq=>(by cases hq),
  ⟨⟨col0_no (by omega) (by omega) (by omega) (by omega),col0_no (by omega) (by omega) (by omega) (by omega),col0_no (by omega) (by omega) (by omega) (by omega),col0_no (by omega) (by omega) (by omega) (by omega)⟩,col0_no (by omega) (by omega) (by omega) (by omega),col0_no (by omega) (by omega) (by omega) (by omega),col0_no (by omega) (by omega) (by omega) (by omega),col0_no (by omega) (by omega) (by omega) (by omega)⟩,
  fun n hn=>absurd hn (Nat.not_lt_zero n),⟨?_,?_,?_,?_⟩,⟨⟨⟨by omega,by omega,by omega,by omega⟩,by omega,by omega,by omega,by omega⟩,by omega,by omega,by omega,by omega⟩,⟨hmd.size,by rw[hsz];exact Nat.le_refl _⟩,fun q hq=> ?_,fun q hq q1 q2=>col0_no q1 q2 (by omega) (by omega),?_,by omega,⟨⟨by omega,by omega,by omega,by omega⟩,by omega,by omega,by omega⟩,fun n hn=>absurd hn (Nat.not_lt_zero n)⟩
 ·have:=blk_set hlk 6 (.pointer (some ⟨b.gf,0,none⟩))
  simpa[nwCells]using this
 ·unfold col0;rw[if_pos rfl]
 ·unfold col0;rw[if_neg (by omega),if_pos rfl]
 ·unfold col0;rw[if_neg (by omega),if_neg (by omega),if_pos rfl]
 ·unfold col0;rw[if_neg (by omega),if_neg (by omega),if_neg (by omega),if_pos rfl]
 ·rw[hsz]at hq
  exact col0_no (by omega) (by omega) (by omega) (by omega)
 ·exact hmd.setNew (p:=⟨b.gl,6,none⟩) (by show w.heap.size≤b.gl;omega) _
theorem NwW.co {w:World}{B0:Nat}{b:Bl}{c:Nw}{σ0:Ar}{ms:List Int}{lf lk lh col:Nat→Nat}{v:Value}{W:World}(h:NwW w B0 b c σ0 ms c.NN c.NN (c.σN σ0 c.NN) lf lk lh col v W)(hN:1≤c.NN)(lw:(w.heap.size≤b.gt∧w.heap.size≤b.gn∧w.heap.size≤b.gs∧w.heap.size≤b.hs)∧w.heap.size≤b.gf∧w.heap.size≤b.gk∧w.heap.size≤b.gh):
 ∃cd:Cd,(cd.gl=b.gl∧cd.ga=b.ga∧cd.ha=b.ha∧cd.col=col)∧CoAt W cd (c.pm σ0) (c.st σ0)∧Lw cd c.NN w.heap.size:=by
 obtain⟨⟨⟨p1,p2,p3,p4⟩,p5,p6,p7,p8⟩,p9,p10,p11,p12⟩:=h.pre;obtain⟨z1,z2⟩:=h.sz;rcases h.nr.2 with⟨_,h0⟩|⟨g,cap,cur,rfl,hg,hbk,rest⟩
 ·omega
 have hcell:=World.ownsRow.cells h.nr (g:=g) rfl;have hcv:=h.cv g rfl
 refine⟨⟨b.gl,b.gt,b.gn,b.gs,g,b.hs,b.ga,b.ha,b.gf,b.gk,b.gh,lf,lk,lh,c.kg,c.kl,c.par,b.tB,b.td,b.cn,b.cs,cap,col⟩,⟨rfl,rfl,rfl,rfl⟩,⟨?_,⟨h.ar,h.sp,h.fg,h.fl⟩,List.length_replicate⟩,⟨⟨⟨h.gl0,lw.1.1,lw.1.2.1,lw.1.2.2.1⟩,Nat.le_trans z1 hg,lw.1.2.2.2,lw.2⟩,fun n hn=>by
  have:=h.lo n hn;show w.heap.size≤lf n∧w.heap.size≤lk n∧w.heap.size≤lh n;omega⟩⟩
 obtain⟨⟨a1,a2,a3,a4⟩,a5,a6,a7,a8⟩:=h.c0;obtain⟨-,t1,t2,-,-,t6,t7,-,-⟩:=h.tb.cells;have hlt:=lt_of_blk hbk;refine⟨h.lk_,t1,t2,t6,t7,h.rn,h.rs,fun n hn=> ?_,⟨a1,a2,a3,a4,hcv.1,a6,a7⟩,h.cl,h.ch,⟨by show b.gt<_;omega,by show b.gn<_;omega,by show b.gs<_;omega,hlt,by show b.ha<_;omega⟩,h.fresh⟩;have hr:(List.range c.NN)[n]? =some n:=List.getElem?_range hn;have e:=fun(j:Nat) (hj:j<2)=>flat_get (dec:=fun n=> [.pointer (some ⟨lf n,0,none⟩),.int .i64 ((c.pm σ0).cw n)]) (k:=2) (fun _=>rfl) (List.range c.NN) n j hj n hr;have ad:∀i,(⟨g,0,none⟩:Addr).add i=⟨g,i,none⟩:=fun i=>by unfold Addr.add;split<;>simp_all
 have e0:=hcell (n*2+0) _ (e 0 (by omega));have e1:=hcell (n*2+1) _ (e 1 (by omega));rw[ad]at e0 e1;exact⟨e0,e1⟩
end Go.Proofs.YtfmiioddhpkdkaaGreat.Cm
