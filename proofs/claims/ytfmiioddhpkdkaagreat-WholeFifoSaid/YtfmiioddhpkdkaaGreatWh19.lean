/- Merged texts: Co2, Co3, Co4, Co5, Co6, Co7, Co8, Co9. -/
import Derived.Test.YtfmiioddhpkdkaaGreatWh18
set_option linter.unusedVariables false
set_option linter.unusedSimpArgs false
namespace Go.Proofs.YtfmiioddhpkdkaaGreat.Co
open Go.RowKit Go.Proofs.YtfmiioddhpkdkaaGreat.Ara Go.Proofs.YtfmiioddhpkdkaaGreat.Lok Go.Proofs.YtfmiioddhpkdkaaGreat.Fl
section
variable {P:Pm}{x:CS}{m:Nat}(D:Dj P)(H:CI P x m)
include D H
theorem CI.alone {t:Nat}(ht:t<P.T)(h2:2≤pcT x t){u:Nat}(hu:u<P.T)(hn:P.nd u=P.nd t)(hne:u≠t):pcT x u≤1:=by
 rcases Int.lt_or_le 1 (pcT x u)with h|h
 ·exfalso
  have r1:=H.rel t ht;have r2:=H.rel u hu;unfold relP at r1 r2;unfold pcL at r1 r2;rw[hn]at r2;have:=(H.ol (P.nd t) (D.nd t ht).1).sole (i:=P.sl u) (j:=P.sl t) (by omega) (by omega);exact hne (D.inj u t hu ht hn (by omega))
 ·exact h
theorem CI.turn {t:Nat}(ht:t<P.T){x':CS}(hog:OkK P.pg x'.σ x'.g P.NN (m+1))(hol:OkK (P.pl (P.nd t)) x'.σ (x'.loc (P.nd t)) (P.mt (P.nd t)) (m+1))
 (hlo:∀k,k≠P.nd t→x'.loc k=x.loc k) (hal:∀k,k<P.NN→k≠P.nd t→Al (P.pl k) (P.mt k) x.σ x'.σ) (hS:∀u:Nat,u≠t→spOf x'.S u=spOf x.S u) (hlen:x'.S.length=x.S.length)
 (hgo:∀k,k<P.NN→k≠P.nd t→pcG x' k=pcG x k) (hlo2:∀u,u<P.T→u≠t→pcL P x' u=pcL P x u) (hcw:∀k,k<P.NN→k≠P.nd t→cnW P x' k=cnW P x k) (h1:x'.σ.t=x.σ.t) (h2:x'.σ.ws.length=x.σ.ws.length)
 (hops:x'.σ.ops≤x.σ.ops+1) (hrel:relP (pcT x' t) (pcL P x' t)) (hnod:nodP P (pcT x' t) (spOf x'.S t).a (cnW P x' (P.nd t)) (pcG x' (P.nd t)))
 (hoth:(cnW P x' (P.nd t)=cnW P x (P.nd t)∧pcG x' (P.nd t)=pcG x (P.nd t))∨2≤pcT x t)
 (hfree:¬busy (pcT x' t)→(∀u,u<P.T→u≠t→P.nd u=P.nd t→¬busy (pcT x u))→(cnW P x' (P.nd t)=0∧pcG x' (P.nd t)=0)∨(0<cnW P x' (P.nd t)∧pcG x' (P.nd t)=10))
 (hcr:0≤cnW P x' (P.nd t)∧cnW P x' (P.nd t)≤P.B+1):CI P x' (m+1):=by
 have hpc:∀u:Nat,u≠t→pcT x' u=pcT x u:=fun u hu=>congrArg Sp.pc (hS u hu);have ho:=H.ops;refine⟨hog,fun n hn=> ?_,hlen.trans H.len,by rw[h1,h2];exact H.hl,fun n hn=> ?_,fun u hu=> ?_,fun u hu=> ?_,fun n hn hf=> ?_,fun n hn=> ?_,by omega⟩
 ·by_cases e:n=P.nd t
  ·rw[e];exact hol
  ·rw[hlo n e];exact(H.ol n hn).al (hal n hn e) (by omega) (by omega)
 ·have:=H.hc n hn
  unfold Ar.has at this⊢;rw[h1];exact this
 ·by_cases e:u=t
  ·rw[e];exact hrel
  ·rw[hpc u e,hlo2 u hu e];exact H.rel u hu
 ·by_cases e:u=t
  ·rw[e];exact hnod
  ·rw[hpc u e,hS u e]
   by_cases en:P.nd u=P.nd t
   ·rcases hoth with hoth|hoth
    ·rw[en,hoth.1,hoth.2,←en];exact H.nod u hu
    ·have h9:=H.alone D ht hoth hu en e
     unfold nodP;refine⟨fun h=>by omega,fun h=>by omega,fun h=>by omega,fun h=>by omega,fun h=>by omega,fun h=>by omega⟩
   ·rw[hcw _ (D.nd u hu).1 en,hgo _ (D.nd u hu).1 en];exact H.nod u hu
 ·by_cases e:n=P.nd t
  ·subst e
   exact hfree (hf t ht rfl) (fun u hu hne hnn=>by rw[←hpc u hne];exact hf u hu hnn)
  ·rw[hcw n hn e,hgo n hn e]
   refine H.free n hn (fun u hu hnn=> ?_);have hut:u≠t:=fun e2=>e (by rw[←hnn,e2]);rw[←hpc u hut];exact hf u hu hnn
 ·by_cases e:n=P.nd t
  ·rw[e];exact hcr
  ·rw[hcw n hn e];exact H.cr n hn
end
end Go.Proofs.YtfmiioddhpkdkaaGreat.Co
namespace Go.Proofs.YtfmiioddhpkdkaaGreat.Co
open Go.RowKit Go.Proofs.YtfmiioddhpkdkaaGreat.Ara Go.Proofs.YtfmiioddhpkdkaaGreat.Lok Go.Proofs.YtfmiioddhpkdkaaGreat.Fl
theorem set_t {S:List Sp}{t:Nat}(ht:t<S.length)(s':Sp):spOf (S.set t s') (t:Int)=s':=by
 have:=spOf_set (sp:=S) (i:=(t:Int)) (Int.natCast_nonneg t) (by omega) s' t;rw[Int.toNat_natCast]at this;rw[this,if_pos rfl]
theorem set_u {S:List Sp}{t:Nat}(ht:t<S.length)(s':Sp){u:Nat}(h:u≠t):spOf (S.set t s') (u:Int)=spOf S (u:Int):=by
 have:=spOf_set (sp:=S) (i:=(t:Int)) (Int.natCast_nonneg t) (by omega) s' u;rw[Int.toNat_natCast]at this;rw[this,if_neg (by omega)]
section
variable {P:Pm}{x:CS}{m:Nat}(D:Dj P)(H:CI P x m)
include D H
theorem CI.op_al {n:Nat}(hn:n<P.NN)(kd v:Int)(wr:Bool):Al P.pg P.NN x.σ (x.σ.op kd (P.cw n) wr v)∧(∀k,k<P.NN→Al (P.pl k) (P.mt k) x.σ (x.σ.op kd (P.cw n) wr v))∧(∀k,k<P.NN→k≠n→(x.σ.op kd (P.cw n) wr v).get (P.cw k)=x.σ.get (P.cw k))∧(x.σ.op kd (P.cw n) wr v).get (P.cw n)=(if wr then v else x.σ.get (P.cw n)):=by
 have hg:=get_op x.σ H.hl kd (P.cw n) v wr
 have h1:∀(p:PK) (N:Nat),¬inR p N (P.cw n)→Al p N x.σ (x.σ.op kd (P.cw n) wr v):=fun p N hq=>⟨fun q hr=>by
  rw[hg];split
  ·rename_i h
   exact absurd (h.2.2▸hr) hq
  ·rfl,by rw[op_t];exact Nat.le_refl _,by rw[op_t,op_len];exact H.hl⟩
 refine⟨h1 _ _ (D.cg n hn),fun k hk=>h1 _ _ (D.cl n k hn hk),fun k hk hne=> ?_,?_⟩
 ·rw[hg,if_neg (fun h=>hne (D.cc k n hk hn h.2.2))]
 ·rw[hg]
  cases wr with
  |true=>rw[if_pos ⟨H.hc n hn,rfl,rfl⟩,if_pos rfl]
  |false=>rw[if_neg (fun h=>by cases h.2.1),if_neg (by decide)]
omit H in
theorem CI.oth_l {t:Nat}(ht:t<P.T)(kd:Int)(σ:Ar){u:Nat}(hu:u<P.T)(hne:u≠t):(spOf (upd x.loc (P.nd t) (doK (P.pl (P.nd t)) σ (x.loc (P.nd t)) kd (P.sl t)).2.2 (P.nd u)) (P.sl u)).pc=pcL P x u:=by
 unfold pcL;by_cases e:P.nd u=P.nd t
 ·have hs:(P.sl u:Int)≠(P.sl t:Int):=fun h=>hne (D.inj u t hu ht e (by omega))
  rw[e,upd_self,do_other _ _ _ _ _ _ hs]
 ·rw[upd_other _ _ e]
omit D H in
theorem CI.oth_g (n:Nat)(kd:Int)(σ:Ar){k:Nat}(hne:k≠n):(spOf (doK P.pg σ x.g kd n).2.2 k).pc=pcG x k:=by
 unfold pcG;rw[do_other _ _ _ _ _ _ (by omega)]
end
section
variable {P:Pm}{x:CS}{m:Nat}(D:Dj P)(H:CI P x m)
include D H
theorem CI.loc_al {t:Nat}(ht:t<P.T)(kd:Int):Al P.pg P.NN x.σ (doK (P.pl (P.nd t)) x.σ (x.loc (P.nd t)) kd (P.sl t)).2.1∧(∀k,k<P.NN→k≠P.nd t→Al (P.pl k) (P.mt k) x.σ (doK (P.pl (P.nd t)) x.σ (x.loc (P.nd t)) kd (P.sl t)).2.1)∧
 (∀k,k<P.NN→(doK (P.pl (P.nd t)) x.σ (x.loc (P.nd t)) kd (P.sl t)).2.1.get (P.cw k)=x.σ.get (P.cw k))∧(doK (P.pl (P.nd t)) x.σ (x.loc (P.nd t)) kd (P.sl t)).2.1.t=x.σ.t∧(doK (P.pl (P.nd t)) x.σ (x.loc (P.nd t)) kd (P.sl t)).2.1.ws.length=x.σ.ws.length:=by
 have hn:=(D.nd t ht).1;have hw:=do_ow (H.ol _ hn) kd (P.sl t);exact⟨hw.al H.hl (fun q hq h=>D.gl _ hn q h hq),fun k hk hne=>hw.al H.hl (fun q hq h=>D.ll k _ hk hn hne q hq h),fun k hk=>hw.get _ (D.cl k _ hk hn),hw.t,hw.l⟩
theorem CI.glo_al (n:Nat)(kd:Int):(∀k,k<P.NN→Al (P.pl k) (P.mt k) x.σ (doK P.pg x.σ x.g kd n).2.1)∧(∀k,k<P.NN→(doK P.pg x.σ x.g kd n).2.1.get (P.cw k)=x.σ.get (P.cw k))∧(doK P.pg x.σ x.g kd n).2.1.t=x.σ.t∧(doK P.pg x.σ x.g kd n).2.1.ws.length=x.σ.ws.length:=by
 have hw:=do_ow H.og kd (n:Int);exact⟨fun k hk=>hw.al H.hl (fun q hq h=>D.gl k hk q hq h),fun k hk=>hw.get _ (D.cg k hk),hw.t,hw.l⟩
end
end Go.Proofs.YtfmiioddhpkdkaaGreat.Co
namespace Go.Proofs.YtfmiioddhpkdkaaGreat.Co
open Go.RowKit Go.Proofs.YtfmiioddhpkdkaaGreat.Ara Go.Proofs.YtfmiioddhpkdkaaGreat.Lok Go.Proofs.YtfmiioddhpkdkaaGreat.Fl
theorem do12 (p:PK)(σ:Ar)(sp:List Sp){kd:Int}(h:kd=1∨kd=2)(i:Int):(doK p σ sp kd i).2.1=σ:=by
 rcases h with rfl|rfl<;>cases p<;>rfl
section
variable {P:Pm}{x:CS}{m:Nat}(D:Dj P)(H:CI P x m)
include H
theorem CI.more:CI P x (m+1):=
 ⟨H.og.al (Al.refl H.hl) (by have:=H.ops;omega) (by omega),fun n hn=>(H.ol n hn).al (Al.refl H.hl) (by have:=H.ops;omega) (by omega),H.len,H.hl,H.hc,H.rel,H.nod,H.free,H.cr,by have:=H.ops;omega⟩
include D
theorem CI.tl {t:Nat}(ht:t<P.T)(kd:Int)(s':Sp)(hrel:relP s'.pc (spOf (doK (P.pl (P.nd t)) x.σ (x.loc (P.nd t)) kd (P.sl t)).2.2 (P.sl t)).pc)(hnod:nodP P s'.pc s'.a (cnW P x (P.nd t)) (pcG x (P.nd t)))
 (hfree:¬busy s'.pc→(∀u,u<P.T→u≠t→P.nd u=P.nd t→¬busy (pcT x u))→(cnW P x (P.nd t)=0∧pcG x (P.nd t)=0)∨(0<cnW P x (P.nd t)∧pcG x (P.nd t)=10)):
 CI P ⟨(doK (P.pl (P.nd t)) x.σ (x.loc (P.nd t)) kd (P.sl t)).2.1,x.g,upd x.loc (P.nd t) (doK (P.pl (P.nd t)) x.σ (x.loc (P.nd t)) kd (P.sl t)).2.2,x.S.set t s'⟩ (m+1):=by
 obtain⟨hn,hsl⟩:=D.nd t ht;have htl:t<x.S.length:=by rw[H.len];exact ht
 have ho:=H.ops;obtain⟨a1,a2,a3,a4,a5⟩:=H.loc_al D ht kd;have hops:=(do_ops (P.pl (P.nd t)) x.σ (x.loc (P.nd t)) kd (P.sl t)).1;have hact:=(H.ol _ hn).act kd (P.sl t);have hoth:=fun u (hu:u<P.T) (hne:u≠t)=>CI.oth_l (x:=x) D ht kd x.σ hu hne;have hcr:=H.cr _ hn;have hcn:=a3 _ hn;have hgo:=H.og.al a1 (Nat.le_trans hops (show x.σ.ops+1≤m+1+1 by omega)) (show m≤m+1 by omega);generalize doK (P.pl (P.nd t)) x.σ (x.loc (P.nd t)) kd (P.sl t)=r at*;obtain⟨b,σ',l'⟩:=r;have e1:spOf (x.S.set t s') (t:Int)=s':=set_t htl s';refine H.turn D ht hgo (show OkK (P.pl (P.nd t)) σ' (upd x.loc (P.nd t) l' (P.nd t)) _ _ by rw[upd_self];exact hact) (fun k hk=>upd_other _ _ hk) a2 (fun u hu=>set_u htl _ hu) (by simp) (fun k _ _=>rfl) hoth (fun k hk _=>a3 k hk) a4 a5 hops ?_ ?_ (.inl ⟨hcn,rfl⟩) ?_ ?_
 ·show relP (spOf (x.S.set t s') (t:Int)).pc (spOf (upd x.loc (P.nd t) l' (P.nd t)) (P.sl t)).pc
  rw[e1,upd_self];exact hrel
 ·show nodP P (spOf (x.S.set t s') (t:Int)).pc (spOf (x.S.set t s') (t:Int)).a (σ'.get (P.cw (P.nd t))) (pcG x (P.nd t))
  rw[e1,hcn];exact hnod
 ·intro hb hf
  show(σ'.get (P.cw (P.nd t))=0∧pcG x (P.nd t)=0)∨(0<σ'.get (P.cw (P.nd t))∧pcG x (P.nd t)=10);rw[hcn];exact hfree (by rw[←e1];exact hb) hf
 ·show 0≤σ'.get (P.cw (P.nd t))∧σ'.get (P.cw (P.nd t))≤P.B+1
  rw[hcn];exact hcr
theorem CI.tg {t:Nat}(ht:t<P.T)(h2:2≤pcT x t)(kd:Int)(s':Sp)(l':Nat→List Sp)(hl:OkK (P.pl (P.nd t)) x.σ (l' (P.nd t)) (P.mt (P.nd t)) (m+1))(hlo:∀k,k≠P.nd t→l' k=x.loc k)(hlo2:∀u,u<P.T→u≠t→(spOf (l' (P.nd u)) (P.sl u)).pc=pcL P x u)
 (hrel:relP s'.pc (spOf (l' (P.nd t)) (P.sl t)).pc) (hnod:nodP P s'.pc s'.a (cnW P x (P.nd t)) (spOf (doK P.pg x.σ x.g kd (P.nd t)).2.2 (P.nd t)).pc)
 (hfree:¬busy s'.pc→(cnW P x (P.nd t)=0∧(spOf (doK P.pg x.σ x.g kd (P.nd t)).2.2 (P.nd t)).pc=0)∨(0<cnW P x (P.nd t)∧(spOf (doK P.pg x.σ x.g kd (P.nd t)).2.2 (P.nd t)).pc=10)):
 CI P ⟨(doK P.pg x.σ x.g kd (P.nd t)).2.1,(doK P.pg x.σ x.g kd (P.nd t)).2.2,l',x.S.set t s'⟩ (m+1):=by
 obtain⟨hn,hsl⟩:=D.nd t ht;have htl:t<x.S.length:=by rw[H.len];exact ht
 have ho:=H.ops;obtain⟨a2,a3,a4,a5⟩:=H.glo_al D (P.nd t) kd;have hops:=(do_ops P.pg x.σ x.g kd (P.nd t)).1;have hact:=H.og.act kd (P.nd t);have hgo:=fun k (hk:k≠P.nd t)=>CI.oth_g (P:=P) (x:=x) (P.nd t) kd x.σ hk;have hcr:=H.cr _ hn;have hcn:=a3 _ hn;have hl2:=hl.al (a2 _ hn) (Nat.le_trans hops (show x.σ.ops+1≤m+1+1 by omega)) (Nat.le_refl _);generalize doK P.pg x.σ x.g kd (P.nd t)=r at*;obtain⟨b,σ',g'⟩:=r;have e1:spOf (x.S.set t s') (t:Int)=s':=set_t htl s';refine H.turn D ht hact hl2 hlo (fun k hk _=>a2 k hk) (fun u hu=>set_u htl _ hu) (by simp) (fun k _ hk=>hgo k hk) hlo2 (fun k hk _=>a3 k hk) a4 a5 hops ?_ ?_ (.inr h2) ?_ ?_
 ·show relP (spOf (x.S.set t s') (t:Int)).pc (spOf (l' (P.nd t)) (P.sl t)).pc
  rw[e1];exact hrel
 ·show nodP P (spOf (x.S.set t s') (t:Int)).pc (spOf (x.S.set t s') (t:Int)).a (σ'.get (P.cw (P.nd t))) (spOf g' (P.nd t)).pc
  rw[e1,hcn];exact hnod
 ·intro hb _
  show(σ'.get (P.cw (P.nd t))=0∧(spOf g' (P.nd t)).pc=0)∨(0<σ'.get (P.cw (P.nd t))∧(spOf g' (P.nd t)).pc=10);rw[hcn];exact hfree (by rw[←e1];exact hb)
 ·show 0≤σ'.get (P.cw (P.nd t))∧σ'.get (P.cw (P.nd t))≤P.B+1
  rw[hcn];exact hcr
theorem CI.tw {t:Nat}(ht:t<P.T)(h2:2≤pcT x t)(kd v:Int)(wr:Bool)(s':Sp)(g':List Sp)(l':Nat→List Sp)(hg:OkK P.pg x.σ g' P.NN (m+1))(hgo:∀k,k≠P.nd t→(spOf g' k).pc=pcG x k)
 (hl:OkK (P.pl (P.nd t)) x.σ (l' (P.nd t)) (P.mt (P.nd t)) (m+1)) (hlo:∀k,k≠P.nd t→l' k=x.loc k) (hlo2:∀u,u<P.T→u≠t→(spOf (l' (P.nd u)) (P.sl u)).pc=pcL P x u)
 (hrel:relP s'.pc (spOf (l' (P.nd t)) (P.sl t)).pc) (hnod:nodP P s'.pc s'.a (if wr then v else cnW P x (P.nd t)) (spOf g' (P.nd t)).pc)
 (hfree:¬busy s'.pc→((if wr then v else cnW P x (P.nd t))=0∧(spOf g' (P.nd t)).pc=0)∨(0<(if wr then v else cnW P x (P.nd t))∧(spOf g' (P.nd t)).pc=10)) (hv:0≤(if wr then v else cnW P x (P.nd t))∧(if wr then v else cnW P x (P.nd t))≤P.B+1):
 CI P ⟨x.σ.op kd (P.cw (P.nd t)) wr v,g',l',x.S.set t s'⟩ (m+1):=by
 obtain⟨hn,hsl⟩:=D.nd t ht;have htl:t<x.S.length:=by rw[H.len];exact ht
 have ho:=H.ops;obtain⟨a1,a2,a3,a4⟩:=H.op_al D hn kd v wr;have hops:(x.σ.op kd (P.cw (P.nd t)) wr v).ops≤x.σ.ops+1:=by rw[op_ops];split<;>omega
 have hops2:=Nat.le_trans hops (show x.σ.ops+1≤m+1+1 by omega);have e1:spOf (x.S.set t s') (t:Int)=s':=set_t htl s';refine H.turn D ht (hg.al a1 hops2 (Nat.le_refl _)) (hl.al (a2 _ hn) hops2 (Nat.le_refl _)) hlo (fun k hk _=>a2 k hk) (fun u hu=>set_u htl _ hu) (by simp) (fun k _ hk=>hgo k hk) hlo2 a3 (op_t _ _ _ _ _) (op_len _ _ _ _ _) hops ?_ ?_ (.inr h2) ?_ ?_
 ·show relP (spOf (x.S.set t s') (t:Int)).pc (spOf (l' (P.nd t)) (P.sl t)).pc
  rw[e1];exact hrel
 ·show nodP P (spOf (x.S.set t s') (t:Int)).pc (spOf (x.S.set t s') (t:Int)).a ((x.σ.op kd (P.cw (P.nd t)) wr v).get (P.cw (P.nd t))) (spOf g' (P.nd t)).pc
  rw[e1,a4];exact hnod
 ·intro hb _
  show((x.σ.op kd (P.cw (P.nd t)) wr v).get (P.cw (P.nd t))=0∧(spOf g' (P.nd t)).pc=0)∨(0<(x.σ.op kd (P.cw (P.nd t)) wr v).get (P.cw (P.nd t))∧(spOf g' (P.nd t)).pc=10);rw[a4];exact hfree (by rw[←e1];exact hb)
 ·show 0≤(x.σ.op kd (P.cw (P.nd t)) wr v).get (P.cw (P.nd t))∧(x.σ.op kd (P.cw (P.nd t)) wr v).get (P.cw (P.nd t))≤P.B+1
  rw[a4];exact hv
end
end Go.Proofs.YtfmiioddhpkdkaaGreat.Co
namespace Go.Proofs.YtfmiioddhpkdkaaGreat.Co
open Go.RowKit Go.Proofs.YtfmiioddhpkdkaaGreat.Ara Go.Proofs.YtfmiioddhpkdkaaGreat.Lok Go.Proofs.YtfmiioddhpkdkaaGreat.Fl
theorem self_set {S:List Sp}{t:Nat}(ht:t<S.length):S.set t (spOf S (t:Int))=S:=by
 rw[spOf_in ht,List.set_getElem_self]
theorem nod_calm {P:Pm}{pc a c γ:Int}(h:pc≤2∨pc=16):nodP P pc a c γ:=by
 unfold nodP;refine⟨fun h=>by omega,fun h=>by omega,fun h=>by omega,fun h=>by omega,fun h=>by omega,fun h=>by omega⟩
section
variable {P:Pm}{x:CS}{m:Nat}(D:Dj P)(H:CI P x m)
include D H
theorem CI.in_ {t:Nat}(ht:t<P.T)(hp:0<pcT x t∧pcT x t<10):CI P (inC P x t (spOf x.S t)) (m+1):=by
 obtain⟨hn,hsl⟩:=D.nd t ht;have htl:t<x.S.length:=by rw[H.len];exact ht
 have hpc:=H.rel t ht;have hN:=H.nod t ht;have hB:=D.B0;have hcr:=H.cr _ hn;have hgl:x.g.length=P.NN:=H.og.len;have hog1:OkK P.pg x.σ x.g P.NN (m+1):=H.og.al (Al.refl H.hl) (by have:=H.ops;omega) (by omega);have hol1:OkK (P.pl (P.nd t)) x.σ (x.loc (P.nd t)) (P.mt (P.nd t)) (m+1):=(H.ol _ hn).al (Al.refl H.hl) (by have:=H.ops;omega) (by omega)
 have hfree0:¬busy (pcT x t)→(∀u,u<P.T→u≠t→P.nd u=P.nd t→¬busy (pcT x u))→(cnW P x (P.nd t)=0∧pcG x (P.nd t)=0)∨(0<cnW P x (P.nd t)∧pcG x (P.nd t)=10):=fun h1 h2=>H.free _ hn (fun u hu hnn=>by
  by_cases eu:u=t
  ·rw[eu];exact h1
  ·exact h2 u hu eu hnn)
 have hfree2:(2:Int)≤pcT x t→¬busy (pcT x t)→(cnW P x (P.nd t)=0∧pcG x (P.nd t)=0)∨(0<cnW P x (P.nd t)∧pcG x (P.nd t)=10):=fun h2 h1=>hfree0 h1 (fun u hu hne hnn=>by
  have:=H.alone D ht h2 hu hnn hne;unfold busy;omega)
 unfold relP at hpc;unfold nodP at hN;rcases(show pcT x t=1∨pcT x t=2∨pcT x t=3∨pcT x t=4 by omega)with e|e|e|e
 ·have hl:0<pcL P x t∧pcL P x t<10:=by omega
  have hst:=((H.ol _ hn).step_pc (P.sl t)).2.2.1 hl.1 hl.2;have hfr:=fun h2=>hfree0 (by rw[e];unfold busy;omega) h2;unfold inC;rw[if_pos e];rcases hst with⟨b1,b2⟩|⟨b1,b2,b3⟩
  ·rw[if_pos b1]
   exact H.tl D ht 0 _ (by rw[b2];exact .inr (.inr (.inl ⟨.inl rfl,rfl⟩))) (nod_calm (.inl (Int.le_refl _))) (fun _ h2=>hfr h2)
  ·rw[if_neg (by rw[b1];decide)]
   have:=H.tl D ht 0 (spOf x.S t) (.inr (.inl ⟨e,b2,b3⟩)) (nod_calm (.inl (by show pcT x t≤2;omega))) (fun _ h2=>hfr h2);rw[self_set htl]at this;exact this
 ·have hl:pcL P x t=10:=by omega
  have hfr:=hfree2 (by omega) (by rw[e];unfold busy;omega);unfold inC;rw[if_neg (by show¬pcT x t=1;omega),if_pos e];by_cases hc:0<x.σ.get (P.cw (P.nd t))
  ·have hc':0<cnW P x (P.nd t):=hc
   rw[if_pos hc];refine H.tw D ht (by omega) 1 0 false _ x.g x.loc hog1 (fun _ _=>rfl) hol1 (fun _ _=>rfl) (fun _ _ _=>rfl) (.inr (.inr (.inl ⟨.inr (.inr (.inr (.inl rfl))),hl⟩))) ?_ (fun h=>absurd (show busy 10 by unfold busy;omega) h) hcr;have hg:pcG x (P.nd t)=10:=by omega
   show nodP P 10 (cnW P x (P.nd t)) (cnW P x (P.nd t)) (pcG x (P.nd t));unfold nodP;exact⟨fun h=>by omega,fun h=>by omega,fun _=>⟨hc',hg⟩,fun _=>rfl,fun h=>by omega,fun h=>by omega⟩
  ·have hc':¬0<cnW P x (P.nd t):=hc
   rw[if_neg hc];have hg0:pcG x (P.nd t)=0:=by omega
   have hask:=ask_pc P.pg x.σ (sp:=x.g) (i:=(P.nd t:Int)) (by omega) (by omega) hg0;have hact:=H.og.act 1 (P.nd t);rw[hask.2]at hact;refine H.tw D ht (by omega) 1 0 false _ _ x.loc hact (fun k hk=>CI.oth_g (P:=P) (x:=x) (P.nd t) 1 x.σ hk) hol1 (fun _ _=>rfl) (fun _ _ _=>rfl) (.inr (.inr (.inl ⟨.inr (.inl rfl),hl⟩))) ?_ (fun h=>absurd (show busy 3 by unfold busy;omega) h) hcr;rw[hask.1];show nodP P 3 (cnW P x (P.nd t)) (cnW P x (P.nd t)) 1;unfold nodP;exact⟨fun _=>by omega,fun h=>by omega,fun h=>by omega,fun _=>rfl,fun h=>by omega,fun h=>by omega⟩
 ·have hl:pcL P x t=10:=by omega
  obtain⟨c0,g0,g1⟩:=hN.1 e;have hst:=(H.og.step_pc (P.nd t)).2.2.1 g0 g1;unfold inC;rw[if_neg (by show¬pcT x t=1;omega),if_neg (by show¬pcT x t=2;omega),if_pos e];rcases hst with⟨b1,b2⟩|⟨b1,b2,b3⟩
  ·rw[if_pos b1]
   refine H.tg D ht (by omega) 0 _ x.loc hol1 (fun _ _=>rfl) (fun _ _ _=>rfl) (.inr (.inr (.inl ⟨.inr (.inr (.inl rfl)),hl⟩))) ?_ (fun h=>absurd (show busy 4 by unfold busy;omega) h);rw[b2];show nodP P 4 _ _ 10;unfold nodP;exact⟨fun h=>by omega,fun _=>⟨c0,rfl⟩,fun h=>by omega,fun h=>by omega,fun h=>by omega,fun h=>by omega⟩
  ·rw[if_neg (by rw[b1];decide)]
   have:=H.tg D ht (by omega) 0 (spOf x.S t) x.loc hol1 (fun _ _=>rfl) (fun _ _ _=>rfl) (H.rel t ht) (by
    have e3:(spOf x.S t).pc=3:=e;unfold nodP;exact⟨fun _=>⟨c0,b2,b3⟩,fun h=>by omega,fun h=>by omega,fun h=>by omega,fun h=>by omega,fun h=>by omega⟩) (fun h=>absurd (show busy (pcT x t) by rw[e];unfold busy;omega) h)
   rw[self_set htl]at this;exact this
 ·have hl:pcL P x t=10:=by omega
  obtain⟨c0,g0⟩:=hN.2.1 e;unfold inC;rw[if_neg (by show¬pcT x t=1;omega),if_neg (by show¬pcT x t=2;omega),if_neg (by show¬pcT x t=3;omega),if_pos e];refine H.tw D ht (by omega) 2 1 true _ x.g x.loc hog1 (fun _ _=>rfl) hol1 (fun _ _=>rfl) (fun _ _ _=>rfl) (.inr (.inr (.inl ⟨.inr (.inr (.inr (.inl rfl))),hl⟩))) ?_ (fun h=>absurd (show busy 10 by unfold busy;omega) h) (by rw[if_pos rfl];omega);show nodP P 10 1 (if true=true then 1 else _) (pcG x (P.nd t));rw[if_pos rfl,g0];unfold nodP;exact⟨fun h=>by omega,fun h=>by omega,fun _=>by omega,fun _=>rfl,fun h=>by omega,fun h=>by omega⟩
end
end Go.Proofs.YtfmiioddhpkdkaaGreat.Co
namespace Go.Proofs.YtfmiioddhpkdkaaGreat.Co
open Go.RowKit Go.Proofs.YtfmiioddhpkdkaaGreat.Ara Go.Proofs.YtfmiioddhpkdkaaGreat.Lok Go.Proofs.YtfmiioddhpkdkaaGreat.Fl
section
variable {P:Pm}{x:CS}{m:Nat}(D:Dj P)(H:CI P x m)
include D H
theorem CI.out_ {t:Nat}(ht:t<P.T)(hp:10<pcT x t):CI P (outC P x t (spOf x.S t)) (m+1):=by
 obtain⟨hn,hsl⟩:=D.nd t ht;have htl:t<x.S.length:=by rw[H.len];exact ht
 have hpc:=H.rel t ht;have hN:=H.nod t ht;have hB:=D.B0;have hcr:=H.cr _ hn;have hog1:OkK P.pg x.σ x.g P.NN (m+1):=H.og.al (Al.refl H.hl) (by have:=H.ops;omega) (by omega);have hol1:OkK (P.pl (P.nd t)) x.σ (x.loc (P.nd t)) (P.mt (P.nd t)) (m+1):=(H.ol _ hn).al (Al.refl H.hl) (by have:=H.ops;omega) (by omega)
 have hfree2:¬busy (pcT x t)→(cnW P x (P.nd t)=0∧pcG x (P.nd t)=0)∨(0<cnW P x (P.nd t)∧pcG x (P.nd t)=10):=fun h1=>H.free _ hn (fun u hu hnn=>by
  by_cases eu:u=t
  ·rw[eu];exact h1
  ·have:=H.alone D ht (by omega) hu hnn eu
   unfold busy;omega)
 have hlv:pcL P x t=10→OkK (P.pl (P.nd t)) x.σ (upd x.loc (P.nd t) (doK (P.pl (P.nd t)) x.σ (x.loc (P.nd t)) 2 (P.sl t)).2.2 (P.nd t)) (P.mt (P.nd t)) (m+1)∧(spOf (upd x.loc (P.nd t) (doK (P.pl (P.nd t)) x.σ (x.loc (P.nd t)) 2 (P.sl t)).2.2 (P.nd t)) (P.sl t)).pc=11:=fun h=>by
  have h1:=leave_pc (P.pl (P.nd t)) x.σ h;have h2:=(H.ol _ hn).act 2 (P.sl t);rw[h1.2]at h2;rw[upd_self];exact⟨h2,h1.1⟩
 unfold relP at hpc;unfold nodP at hN;rcases(show pcT x t=11∨pcT x t=12∨pcT x t=13∨pcT x t=14∨pcT x t=15∨pcT x t=16 by omega)with e|e|e|e|e|e
 ·have hl:pcL P x t=10:=by omega
  obtain⟨c0,g0⟩:=hN.2.2.1 (by omega);unfold outC;rw[if_pos e];refine H.tw D ht (by omega) 1 0 false _ x.g x.loc hog1 (fun _ _=>rfl) hol1 (fun _ _=>rfl) (fun _ _ _=>rfl) (.inr (.inr (.inl ⟨?_,hl⟩))) ?_ ?_ hcr
  ·show(if _ then(14:Int)else 12)=2∨_
   split<;>simp
  ·show nodP P (if P.B<cnW P x (P.nd t)then 14 else 12) (cnW P x (P.nd t)) (cnW P x (P.nd t)) (pcG x (P.nd t))
   unfold nodP;split
   ·exact⟨fun h=>by omega,fun h=>by omega,fun _=>⟨c0,g0⟩,fun h=>by omega,fun h=>by omega,fun h=>by omega⟩
   ·exact⟨fun h=>by omega,fun h=>by omega,fun _=>⟨c0,g0⟩,fun h=>by omega,fun h=>⟨rfl,by omega⟩,fun h=>by omega⟩
  ·intro h
   exact absurd (show busy (if P.B<x.σ.get (P.cw (P.nd t))then 14 else 12) by unfold busy;split<;>simp) h
 ·have hl:pcL P x t=10:=by omega
  obtain⟨c0,g0⟩:=hN.2.2.1 (by omega);obtain⟨a0,cB⟩:=hN.2.2.2.2.1 (by omega);unfold outC;rw[if_neg (by show¬pcT x t=11;omega),if_pos e]
  have h1:=H.tl D ht 3 {spOf x.S t with pc:=if passes (spOf x.S t).a P.B (doK (P.pl (P.nd t)) x.σ (x.loc (P.nd t)) 3 (P.sl t)).1 then 13 else 14} (by
   rw[alone_sp];refine .inr (.inr (.inl ⟨?_,hl⟩));show(if _ then(13:Int)else 14)=2∨_;split<;>simp) (by
   show nodP P (if _ then 13 else 14) (spOf x.S t).a _ _;unfold nodP;split
   ·exact⟨fun h=>by omega,fun h=>by omega,fun _=>⟨c0,g0⟩,fun h=>by omega,fun _=>⟨a0,cB⟩,fun h=>by omega⟩
   ·exact⟨fun h=>by omega,fun h=>by omega,fun _=>⟨c0,g0⟩,fun h=>by omega,fun h=>by omega,fun h=>by omega⟩) (fun h _=>absurd (show busy (if _ then(13:Int)else 14) by unfold busy;split<;>simp) h)
  rw[alone_sp]at h1
  have hu:upd x.loc (P.nd t) (x.loc (P.nd t))=x.loc:=by
   funext k;unfold upd;split
   ·rename_i h;rw[h]
   ·rfl
  rw[hu]at h1;exact h1
 ·have hl:pcL P x t=10:=by omega
  obtain⟨c0,g0⟩:=hN.2.2.1 (by omega);obtain⟨a0,cB⟩:=hN.2.2.2.2.1 (by omega);obtain⟨v1,v2⟩:=hlv hl;unfold outC;rw[if_neg (by show¬pcT x t=11;omega),if_neg (by show¬pcT x t=12;omega),if_pos e];refine H.tw D ht (by omega) 2 _ true _ x.g _ hog1 (fun _ _=>rfl) v1 (fun k hk=>upd_other _ _ hk) (fun u hu hne=>CI.oth_l (x:=x) D ht 2 x.σ hu hne) (by rw[v2];exact .inr (.inr (.inr ⟨rfl,by decide⟩))) (nod_calm (.inr rfl)) (fun _=> .inr ⟨by rw[if_pos rfl];omega,g0⟩) (by rw[if_pos rfl];omega)
 ·have hl:pcL P x t=10:=by omega
  obtain⟨c0,g0⟩:=hN.2.2.1 (by omega);have hlg:=leave_pc P.pg x.σ g0;have hact:=H.og.act 2 (P.nd t);rw[hlg.2]at hact;unfold outC;rw[if_neg (by show¬pcT x t=11;omega),if_neg (by show¬pcT x t=12;omega),if_neg (by show¬pcT x t=13;omega),if_pos e];refine H.tw D ht (by omega) 2 0 true _ _ x.loc hact (fun k hk=>CI.oth_g (P:=P) (x:=x) (P.nd t) 2 x.σ hk) hol1 (fun _ _=>rfl) (fun _ _ _=>rfl) (.inr (.inr (.inl ⟨by simp,hl⟩))) ?_ (fun h=>absurd (show busy 15 by unfold busy;omega) h) (by rw[if_pos rfl];omega);rw[hlg.1,if_pos rfl];show nodP P 15 _ 0 11;unfold nodP;exact⟨fun h=>by omega,fun h=>by omega,fun h=>by omega,fun h=>by omega,fun h=>by omega,fun _=>by omega⟩
 ·have hl:pcL P x t=10:=by omega
  obtain⟨c0,g0⟩:=hN.2.2.2.2.2 e;have hst:=(H.og.step_pc (P.nd t)).2.2.2 g0;obtain⟨v1,v2⟩:=hlv hl;unfold outC;rw[if_neg (by show¬pcT x t=11;omega),if_neg (by show¬pcT x t=12;omega),if_neg (by show¬pcT x t=13;omega),if_neg (by show¬pcT x t=14;omega),if_pos e];rcases hst with⟨b1,b2⟩|⟨b1,b2⟩
  ·rw[if_pos b1]
   exact H.tg D ht (by omega) 0 _ _ v1 (fun k hk=>upd_other _ _ hk) (fun u hu hne=>CI.oth_l (x:=x) D ht 2 x.σ hu hne) (by rw[v2];exact .inr (.inr (.inr ⟨rfl,by decide⟩))) (nod_calm (.inr rfl)) (fun _=> .inl ⟨c0,b2⟩)
  ·rw[if_neg (by rw[b1];decide)]
   have:=H.tg D ht (by omega) 0 (spOf x.S t) x.loc hol1 (fun _ _=>rfl) (fun _ _ _=>rfl) (H.rel t ht) (by
    have e3:(spOf x.S t).pc=15:=e;unfold nodP;exact⟨fun h=>by omega,fun h=>by omega,fun h=>by omega,fun h=>by omega,fun h=>by omega,fun _=>⟨c0,b2⟩⟩) (fun h=>absurd (show busy (pcT x t) by rw[e];unfold busy;omega) h)
   rw[self_set htl]at this;exact this
 ·have hl:10<pcL P x t:=by omega
  have hfr:=hfree2 (by rw[e];unfold busy;omega);have hst:=((H.ol _ hn).step_pc (P.sl t)).2.2.2 hl;unfold outC;rw[if_neg (by show¬pcT x t=11;omega),if_neg (by show¬pcT x t=12;omega),if_neg (by show¬pcT x t=13;omega),if_neg (by show¬pcT x t=14;omega),if_neg (by show¬pcT x t=15;omega),if_pos e];rcases hst with⟨b1,b2⟩|⟨b1,b2⟩
  ·rw[if_pos b1]
   exact H.tl D ht 0 _ (by rw[b2];exact .inl ⟨rfl,rfl⟩) (nod_calm (.inl (by show(0:Int)≤2;decide))) (fun _ _=>hfr)
  ·rw[if_neg (by rw[b1];decide)]
   have:=H.tl D ht 0 (spOf x.S t) (.inr (.inr (.inr ⟨e,b2⟩))) (nod_calm (.inr e)) (fun _ _=>hfr);rw[self_set htl]at this;exact this
end
end Go.Proofs.YtfmiioddhpkdkaaGreat.Co
namespace Go.Proofs.YtfmiioddhpkdkaaGreat.Co
open Go.RowKit Go.Proofs.YtfmiioddhpkdkaaGreat.Ara Go.Proofs.YtfmiioddhpkdkaaGreat.Lok Go.Proofs.YtfmiioddhpkdkaaGreat.Fl
section
variable {P:Pm}{x:CS}{m:Nat}(D:Dj P)(H:CI P x m)
include H
theorem CI.rngT {t:Int}(h:(spOf x.S t).pc≠0):∃k:Nat,t=k∧k<P.T:=by
 have h1:=spOf_range (sp:=x.S) (i:=t) h;obtain⟨k,rfl⟩:=Int.eq_ofNat_of_zero_le h1.1;exact⟨k,rfl,by have:=H.len;omega⟩
theorem CI.posT (t:Int):0≤(spOf x.S t).pc:=by
 by_cases h:(spOf x.S t).pc=0
 ·omega
 ·obtain⟨k,rfl,hk⟩:=H.rngT h
  have:=H.rel k hk;unfold relP at this;unfold pcT at this;omega
include D
theorem CI.step (t:Int):CI P (stepC P x t) (m+1):=by
 unfold stepC;by_cases h:(spOf x.S t).pc=0∨(spOf x.S t).pc=10
 ·rw[if_pos h];exact H.more
 ·rw[if_neg h]
  obtain⟨k,rfl,hk⟩:=H.rngT (t:=t) (by omega);have hp:=H.posT (k:Int);rw[Int.toNat_natCast];by_cases h2:(spOf x.S (k:Int)).pc<10
  ·rw[if_pos h2];exact H.in_ D hk ⟨by show 0<(spOf x.S (k:Int)).pc;omega,h2⟩
  ·rw[if_neg h2];exact H.out_ D hk (by show 10<(spOf x.S (k:Int)).pc;omega)
theorem CI.ask (t:Int):CI P (askC P x t) (m+1):=by
 unfold askC;cases hb:turnB x.S t 0 with
 |false=>rw[if_neg (by decide)];exact H.more
 |true=>
  rw[if_pos rfl];obtain⟨⟨t0,t1⟩,hz⟩:=turn_true hb;obtain⟨k,rfl⟩:=Int.eq_ofNat_of_zero_le t0;have hk:k<P.T:=by have:=H.len;omega
  rw[Int.toNat_natCast];obtain⟨hn,hsl⟩:=D.nd k hk;have hr:=H.rel k hk;have e:pcT x k=0:=hz;unfold relP at hr;have hl:pcL P x k=0:=by omega
  have hlen:=(H.ol _ hn).len;have ha:=ask_pc (P.pl (P.nd k)) x.σ (sp:=x.loc (P.nd k)) (i:=(P.sl k:Int)) (by omega) (by omega) hl
  have:=H.tl D hk 1 {spOf x.S (k:Int)with pc:=1} (by rw[ha.1];exact .inr (.inl ⟨rfl,by decide,by decide⟩)) (nod_calm (.inl (by show(1:Int)≤2;decide))) (fun _ h2=>H.free _ hn (fun u hu hnn=>by
   by_cases eu:u=k
   ·rw[eu,e];unfold busy;omega
   ·exact h2 u hu eu hnn))
  rw[ha.2]at this
  have hS:turnS x.S (k:Int) 0 1=x.S.set k {spOf x.S (k:Int)with pc:=1}:=by
   unfold turnS;rw[if_pos hb,Int.toNat_natCast]
  rw[hS];exact this
theorem CI.leave (t:Int):CI P (leaveC x t) (m+1):=by
 unfold leaveC;cases hb:turnB x.S t 10 with
 |false=>rw[turn_no _ hb];exact H.more
 |true=>
  obtain⟨⟨t0,t1⟩,hz⟩:=turn_true hb;obtain⟨k,rfl⟩:=Int.eq_ofNat_of_zero_le t0;have hk:k<P.T:=by have:=H.len;omega
  obtain⟨hn,hsl⟩:=D.nd k hk;have hr:=H.rel k hk;have hN:=H.nod k hk;have e:pcT x k=10:=hz;unfold relP at hr;unfold nodP at hN;have hl:pcL P x k=10:=by omega
  obtain⟨c0,g0⟩:=hN.2.2.1 (.inl e)
  have hS:turnS x.S (k:Int) 10 11=x.S.set k {spOf x.S (k:Int)with pc:=11}:=by
   unfold turnS;rw[if_pos hb,Int.toNat_natCast]
  rw[hS]
  have hu:upd x.loc (P.nd k) (x.loc (P.nd k))=x.loc:=by
   funext j;unfold upd;split
   ·rename_i h;rw[h]
   ·rfl
  have h7:doK (P.pl (P.nd k)) x.σ (x.loc (P.nd k)) 7 (P.sl k)=(false,x.σ,x.loc (P.nd k)):=do_else _ _ _ _ _ (.inr (by omega))
  have:=H.tl D hk 7 {spOf x.S (k:Int)with pc:=11} (by rw[h7];exact .inr (.inr (.inl ⟨by simp,hl⟩))) (by
   show nodP P 11 _ _ _;unfold nodP;exact⟨fun h=>by omega,fun h=>by omega,fun _=>⟨c0,g0⟩,fun h=>by omega,fun h=>by omega,fun h=>by omega⟩) (fun h _=>absurd (show busy 11 by unfold busy;omega) h)
  rw[h7]at this;simp only[hu]at this;exact this
theorem CI.one {t u:Nat}(ht:t<P.T)(hu:u<P.T)(h1:pcT x t=10)(h2:pcT x u=10):t=u:=by
 have n1:=(H.nod t ht).2.2.1 (.inl h1);have n2:=(H.nod u hu).2.2.1 (.inl h2);have hg:=H.og.sole (i:=P.nd t) (j:=P.nd u) (by have:=n1.2;unfold pcG at this;omega) (by have:=n2.2;unfold pcG at this;omega);by_cases e:t=u
 ·exact e
 ·have:=H.alone D hu (by omega) ht (by omega) e
  omega
end
end Go.Proofs.YtfmiioddhpkdkaaGreat.Co
namespace Go.Proofs.YtfmiioddhpkdkaaGreat.Co
open Go.RowKit Go.Proofs.YtfmiioddhpkdkaaGreat.Ara Go.Proofs.YtfmiioddhpkdkaaGreat.Lok Go.Proofs.YtfmiioddhpkdkaaGreat.Fl
inductive Mv (P:Pm) (x x':CS) (t:Nat):Prop where
 |rest (h:x'=x) (hp:pcT x t=0∨pcT x t=10)
 |loc1 (h:pcT x t=1) (h':pcT x' t=1) (hl:0<pcL P x' t∧pcL P x' t<10) (hc:cnW P x' (P.nd t)=cnW P x (P.nd t)) (hg:pcG x' (P.nd t)=pcG x (P.nd t))
 |got1 (h:pcT x t=1) (h':pcT x' t=2) (hl:pcL P x' t=10) (hc:cnW P x' (P.nd t)=cnW P x (P.nd t)) (hg:pcG x' (P.nd t)=pcG x (P.nd t))
 |ent2 (h:pcT x t=2) (h':pcT x' t=10) (hl:pcL P x' t=10) (ha:(spOf x'.S t).a=cnW P x (P.nd t)) (h0:0<cnW P x (P.nd t)) (hc:cnW P x' (P.nd t)=cnW P x (P.nd t)) (g0:pcG x (P.nd t)=10) (hg:pcG x' (P.nd t)=10)
 |ask2 (h:pcT x t=2) (h':pcT x' t=3) (hl:pcL P x' t=10) (h0:cnW P x (P.nd t)=0) (hc:cnW P x' (P.nd t)=0) (g0:pcG x (P.nd t)=0) (hg:pcG x' (P.nd t)=1)
 |glo3 (h:pcT x t=3) (h':pcT x' t=3) (hl:pcL P x' t=10) (h0:cnW P x (P.nd t)=0) (hc:cnW P x' (P.nd t)=0) (g0:0<pcG x (P.nd t)∧pcG x (P.nd t)<10) (hg:0<pcG x' (P.nd t)∧pcG x' (P.nd t)<10)
 |got3 (h:pcT x t=3) (h':pcT x' t=4) (hl:pcL P x' t=10) (h0:cnW P x (P.nd t)=0) (hc:cnW P x' (P.nd t)=0) (g0:0<pcG x (P.nd t)∧pcG x (P.nd t)<10) (hg:pcG x' (P.nd t)=10)
 |ent4 (h:pcT x t=4) (h':pcT x' t=10) (hl:pcL P x' t=10) (ha:(spOf x'.S t).a=1) (h0:cnW P x (P.nd t)=0) (hc:cnW P x' (P.nd t)=1) (g0:pcG x (P.nd t)=10) (hg:pcG x' (P.nd t)=10)
 |ld11 (h:pcT x t=11) (h':pcT x' t=12∨pcT x' t=14) (hl:pcL P x' t=10) (hc:cnW P x' (P.nd t)=cnW P x (P.nd t)) (g0:pcG x (P.nd t)=10) (hg:pcG x' (P.nd t)=10)
 |al12 (h:pcT x t=12) (h':pcT x' t=13∨pcT x' t=14) (hl:pcL P x' t=10) (hc:cnW P x' (P.nd t)=cnW P x (P.nd t)) (g0:pcG x (P.nd t)=10) (hg:pcG x' (P.nd t)=10)
 |st13 (h:pcT x t=13) (h':pcT x' t=16) (hl:pcL P x' t=11) (hc:cnW P x' (P.nd t)=cnW P x (P.nd t)+1) (hB:cnW P x (P.nd t)≤P.B) (g0:pcG x (P.nd t)=10) (hg:pcG x' (P.nd t)=10)
 |st14 (h:pcT x t=14) (h':pcT x' t=15) (hl:pcL P x' t=10) (hc:cnW P x' (P.nd t)=0) (g0:pcG x (P.nd t)=10) (hg:pcG x' (P.nd t)=11)
 |glo15 (h:pcT x t=15) (h':pcT x' t=15) (hl:pcL P x' t=10) (h0:cnW P x (P.nd t)=0) (hc:cnW P x' (P.nd t)=0) (g0:10<pcG x (P.nd t)) (hg:10<pcG x' (P.nd t))
 |got15 (h:pcT x t=15) (h':pcT x' t=16) (hl:pcL P x' t=11) (h0:cnW P x (P.nd t)=0) (hc:cnW P x' (P.nd t)=0) (g0:10<pcG x (P.nd t)) (hg:pcG x' (P.nd t)=0)
 |loc16 (h:pcT x t=16) (h':pcT x' t=16) (hl:10<pcL P x' t) (hc:cnW P x' (P.nd t)=cnW P x (P.nd t)) (hg:pcG x' (P.nd t)=pcG x (P.nd t))
 |got16 (h:pcT x t=16) (h':pcT x' t=0) (hl:pcL P x' t=0) (hc:cnW P x' (P.nd t)=cnW P x (P.nd t)) (hg:pcG x' (P.nd t)=pcG x (P.nd t))
structure Oth (P:Pm)(x x':CS)(t:Nat):Prop where
 S:∀u:Nat,u≠t→spOf x'.S u=spOf x.S u
 l:∀u,u<P.T→u≠t→pcL P x' u=pcL P x u
 c:∀k,k<P.NN→k≠P.nd t→cnW P x' k=cnW P x k
 g:∀k,k≠P.nd t→pcG x' k=pcG x k
section
variable {P:Pm}{x:CS}{m:Nat}(D:Dj P)(H:CI P x m)
include D H
theorem CI.oth {t:Nat}(ht:t<P.T):Oth P x (stepC P x t) t:=by
 obtain⟨hn,hsl⟩:=D.nd t ht;have htl:t<x.S.length:=by rw[H.len];exact ht
 obtain⟨l1,l2,l3,l4,l5⟩:=H.loc_al D ht 0;obtain⟨k1,k2,k3,k4,k5⟩:=H.loc_al D ht 3;obtain⟨q1,q2,q3,q4⟩:=H.glo_al D (P.nd t) 0;have w1:=fun kd v wr=>(H.op_al D hn kd v wr).2.2.1;have s1:∀(s':Sp) (u:Nat),u≠t→spOf (x.S.set t s') (u:Int)=spOf x.S u:=fun s' u hu=>set_u htl s' hu
 have s2:∀(b:Bool) (s':Sp) (u:Nat),u≠t→spOf (if b then x.S.set t s' else x.S) (u:Int)=spOf x.S u:=fun b s' u hu=>by
  split
  ·exact s1 s' u hu
  ·rfl
 have o1:=fun kd u (hu:u<P.T) (hne:u≠t)=>CI.oth_l (x:=x) D ht kd x.σ hu hne;have o2:=fun kd k (hk:k≠P.nd t)=>CI.oth_g (P:=P) (x:=x) (P.nd t) kd x.σ hk;have hp:=H.rel t ht;unfold relP at hp;unfold stepC;rcases(show pcT x t=0∨pcT x t=10∨pcT x t=1∨pcT x t=2∨pcT x t=3∨pcT x t=4∨pcT x t=11∨pcT x t=12∨pcT x t=13∨pcT x t=14∨pcT x t=15∨pcT x t=16 by omega)with e|e|e|e|e|e|e|e|e|e|e|e
 ·rw[if_pos (.inl e)];exact⟨fun _ _=>rfl,fun _ _ _=>rfl,fun _ _ _=>rfl,fun _ _=>rfl⟩
 ·rw[if_pos (.inr e)];exact⟨fun _ _=>rfl,fun _ _ _=>rfl,fun _ _ _=>rfl,fun _ _=>rfl⟩
 ·rw[if_neg (by show¬(pcT x t=0∨pcT x t=10);omega),Int.toNat_natCast,if_pos (by show pcT x t<10;omega)];unfold inC
  rw[if_pos e];exact⟨s2 _ _,o1 0,fun k hk _=>l3 k hk,fun _ _=>rfl⟩
 ·rw[if_neg (by show¬(pcT x t=0∨pcT x t=10);omega),Int.toNat_natCast,if_pos (by show pcT x t<10;omega)];unfold inC
  rw[if_neg (by show¬pcT x t=1;omega),if_pos e];split
  ·exact⟨s1 _,fun _ _ _=>rfl,w1 1 0 false,fun _ _=>rfl⟩
  ·exact⟨s1 _,fun _ _ _=>rfl,w1 1 0 false,o2 1⟩
 ·rw[if_neg (by show¬(pcT x t=0∨pcT x t=10);omega),Int.toNat_natCast,if_pos (by show pcT x t<10;omega)];unfold inC
  rw[if_neg (by show¬pcT x t=1;omega),if_neg (by show¬pcT x t=2;omega),if_pos e];exact⟨s2 _ _,fun _ _ _=>rfl,fun k hk _=>q2 k hk,o2 0⟩
 ·rw[if_neg (by show¬(pcT x t=0∨pcT x t=10);omega),Int.toNat_natCast,if_pos (by show pcT x t<10;omega)];unfold inC
  rw[if_neg (by show¬pcT x t=1;omega),if_neg (by show¬pcT x t=2;omega),if_neg (by show¬pcT x t=3;omega),if_pos e];exact⟨s1 _,fun _ _ _=>rfl,w1 2 1 true,fun _ _=>rfl⟩
 ·rw[if_neg (by show¬(pcT x t=0∨pcT x t=10);omega),Int.toNat_natCast,if_neg (by show¬pcT x t<10;omega)];unfold outC
  rw[if_pos e];exact⟨s1 _,fun _ _ _=>rfl,w1 1 0 false,fun _ _=>rfl⟩
 ·rw[if_neg (by show¬(pcT x t=0∨pcT x t=10);omega),Int.toNat_natCast,if_neg (by show¬pcT x t<10;omega)];unfold outC
  rw[if_neg (by show¬pcT x t=11;omega),if_pos e];exact⟨s1 _,fun _ _ _=>rfl,fun k hk _=>k3 k hk,fun _ _=>rfl⟩
 ·rw[if_neg (by show¬(pcT x t=0∨pcT x t=10);omega),Int.toNat_natCast,if_neg (by show¬pcT x t<10;omega)];unfold outC
  rw[if_neg (by show¬pcT x t=11;omega),if_neg (by show¬pcT x t=12;omega),if_pos e];exact⟨s1 _,o1 2,w1 2 _ true,fun _ _=>rfl⟩
 ·rw[if_neg (by show¬(pcT x t=0∨pcT x t=10);omega),Int.toNat_natCast,if_neg (by show¬pcT x t<10;omega)];unfold outC
  rw[if_neg (by show¬pcT x t=11;omega),if_neg (by show¬pcT x t=12;omega),if_neg (by show¬pcT x t=13;omega),if_pos e];exact⟨s1 _,fun _ _ _=>rfl,w1 2 0 true,o2 2⟩
 ·rw[if_neg (by show¬(pcT x t=0∨pcT x t=10);omega),Int.toNat_natCast,if_neg (by show¬pcT x t<10;omega)];unfold outC
  rw[if_neg (by show¬pcT x t=11;omega),if_neg (by show¬pcT x t=12;omega),if_neg (by show¬pcT x t=13;omega),if_neg (by show¬pcT x t=14;omega),if_pos e];split
  ·exact⟨s1 _,o1 2,fun k hk _=>q2 k hk,o2 0⟩
  ·exact⟨fun _ _=>rfl,fun _ _ _=>rfl,fun k hk _=>q2 k hk,o2 0⟩
 ·rw[if_neg (by show¬(pcT x t=0∨pcT x t=10);omega),Int.toNat_natCast,if_neg (by show¬pcT x t<10;omega)];unfold outC
  rw[if_neg (by show¬pcT x t=11;omega),if_neg (by show¬pcT x t=12;omega),if_neg (by show¬pcT x t=13;omega),if_neg (by show¬pcT x t=14;omega),if_neg (by show¬pcT x t=15;omega),if_pos e];exact⟨s2 _ _,o1 0,fun k hk _=>l3 k hk,fun _ _=>rfl⟩
end
end Go.Proofs.YtfmiioddhpkdkaaGreat.Co
namespace Go.Proofs.YtfmiioddhpkdkaaGreat.Co
open Go.RowKit Go.Proofs.YtfmiioddhpkdkaaGreat.Ara Go.Proofs.YtfmiioddhpkdkaaGreat.Lok Go.Proofs.YtfmiioddhpkdkaaGreat.Fl
section
variable {P:Pm}{x:CS}{m:Nat}(D:Dj P)(H:CI P x m)
include D H
theorem CI.mv {t:Nat}(ht:t<P.T):Mv P x (stepC P x t) t:=by
 obtain⟨hn,hsl⟩:=D.nd t ht;have htl:t<x.S.length:=by rw[H.len];exact ht
 have hgl:x.g.length=P.NN:=H.og.len;have hp:=H.rel t ht;have hN:=H.nod t ht;have hcr:=H.cr _ hn;obtain⟨l1,l2,l3,l4,l5⟩:=H.loc_al D ht 0;obtain⟨k1,k2,k3,k4,k5⟩:=H.loc_al D ht 3;obtain⟨q1,q2,q3,q4⟩:=H.glo_al D (P.nd t) 0;have w4:=fun kd v wr=>(H.op_al D hn kd v wr).2.2.2
 have hfree2:(2:Int)≤pcT x t→¬busy (pcT x t)→(cnW P x (P.nd t)=0∧pcG x (P.nd t)=0)∨(0<cnW P x (P.nd t)∧pcG x (P.nd t)=10):=fun h2 h1=>H.free _ hn (fun u hu hnn=>by
  by_cases eu:u=t
  ·rw[eu];exact h1
  ·have:=H.alone D ht h2 hu hnn eu
   unfold busy;omega)
 unfold relP at hp;unfold nodP at hN;unfold stepC;rcases(show pcT x t=0∨pcT x t=10∨pcT x t=1∨pcT x t=2∨pcT x t=3∨pcT x t=4∨pcT x t=11∨pcT x t=12∨pcT x t=13∨pcT x t=14∨pcT x t=15∨pcT x t=16 by omega)with e|e|e|e|e|e|e|e|e|e|e|e
 ·rw[if_pos (.inl e)];exact .rest rfl (.inl e)
 ·rw[if_pos (.inr e)];exact .rest rfl (.inr e)
 ·rw[if_neg (by show¬(pcT x t=0∨pcT x t=10);omega),Int.toNat_natCast,if_pos (by show pcT x t<10;omega)];unfold inC
  rw[if_pos e];have hl:0<pcL P x t∧pcL P x t<10:=by omega
  rcases((H.ol _ hn).step_pc (P.sl t)).2.2.1 hl.1 hl.2 with⟨b1,b2⟩|⟨b1,b2,b3⟩
  ·rw[if_pos b1]
   exact .got1 e (by show(spOf (x.S.set t _) (t:Int)).pc=_;rw[set_t htl]) (by show(spOf (upd x.loc (P.nd t) _ (P.nd t)) (P.sl t)).pc=10;rw[upd_self];exact b2) (l3 _ hn) rfl
  ·rw[if_neg (by rw[b1];decide)]
   exact .loc1 e e (by show 0<(spOf (upd x.loc (P.nd t) _ (P.nd t)) (P.sl t)).pc∧(spOf (upd x.loc (P.nd t) _ (P.nd t)) (P.sl t)).pc<10;rw[upd_self];exact⟨b2,b3⟩) (l3 _ hn) rfl
 ·rw[if_neg (by show¬(pcT x t=0∨pcT x t=10);omega),Int.toNat_natCast,if_pos (by show pcT x t<10;omega)];unfold inC
  rw[if_neg (by show¬pcT x t=1;omega),if_pos e];have hl:pcL P x t=10:=by omega
  have hfr:=hfree2 (by omega) (by rw[e];unfold busy;omega);by_cases hc:0<x.σ.get (P.cw (P.nd t))
  ·have hc':0<cnW P x (P.nd t):=hc
   rw[if_pos hc];exact .ent2 e (by show(spOf (x.S.set t _) (t:Int)).pc=_;rw[set_t htl]) hl (by show(spOf (x.S.set t _) (t:Int)).a=_;rw[set_t htl]) hc' (w4 1 0 false) (by omega) (by show pcG x (P.nd t)=10;omega)
  ·have hc':¬0<cnW P x (P.nd t):=hc
   rw[if_neg hc];have hg0:pcG x (P.nd t)=0:=by omega
   have hask:=ask_pc P.pg x.σ (sp:=x.g) (i:=(P.nd t:Int)) (by omega) (by omega) hg0;exact .ask2 e (by show(spOf (x.S.set t _) (t:Int)).pc=_;rw[set_t htl]) hl (by omega) ((w4 1 0 false).trans (by show cnW P x (P.nd t)=0;omega)) hg0 hask.1
 ·rw[if_neg (by show¬(pcT x t=0∨pcT x t=10);omega),Int.toNat_natCast,if_pos (by show pcT x t<10;omega)];unfold inC
  rw[if_neg (by show¬pcT x t=1;omega),if_neg (by show¬pcT x t=2;omega),if_pos e];have hl:pcL P x t=10:=by omega
  obtain⟨c0,g0,g1⟩:=hN.1 e;rcases(H.og.step_pc (P.nd t)).2.2.1 g0 g1 with⟨b1,b2⟩|⟨b1,b2,b3⟩
  ·rw[if_pos b1]
   exact .got3 e (by show(spOf (x.S.set t _) (t:Int)).pc=_;rw[set_t htl]) hl c0 ((q2 _ hn).trans c0) ⟨g0,g1⟩ b2
  ·rw[if_neg (by rw[b1];decide)]
   exact .glo3 e e hl c0 ((q2 _ hn).trans c0) ⟨g0,g1⟩ ⟨b2,b3⟩
 ·rw[if_neg (by show¬(pcT x t=0∨pcT x t=10);omega),Int.toNat_natCast,if_pos (by show pcT x t<10;omega)];unfold inC
  rw[if_neg (by show¬pcT x t=1;omega),if_neg (by show¬pcT x t=2;omega),if_neg (by show¬pcT x t=3;omega),if_pos e];have hl:pcL P x t=10:=by omega
  obtain⟨c0,g0⟩:=hN.2.1 e;exact .ent4 e (by show(spOf (x.S.set t _) (t:Int)).pc=_;rw[set_t htl]) hl (by show(spOf (x.S.set t _) (t:Int)).a=_;rw[set_t htl]) c0 (w4 2 1 true) g0 g0
 ·rw[if_neg (by show¬(pcT x t=0∨pcT x t=10);omega),Int.toNat_natCast,if_neg (by show¬pcT x t<10;omega)];unfold outC
  rw[if_pos e];have hl:pcL P x t=10:=by omega
  obtain⟨c0,g0⟩:=hN.2.2.1 (by omega);refine .ld11 e ?_ hl (w4 1 0 false) g0 g0;show(spOf (x.S.set t _) (t:Int)).pc=12∨(spOf (x.S.set t _) (t:Int)).pc=14;rw[set_t htl];show(if _ then(14:Int)else 12)=12∨(if _ then(14:Int)else 12)=14;split<;>simp
 ·rw[if_neg (by show¬(pcT x t=0∨pcT x t=10);omega),Int.toNat_natCast,if_neg (by show¬pcT x t<10;omega)];unfold outC
  rw[if_neg (by show¬pcT x t=11;omega),if_pos e];have hl:pcL P x t=10:=by omega
  obtain⟨c0,g0⟩:=hN.2.2.1 (by omega);refine .al12 e ?_ hl (k3 _ hn) g0 g0;show(spOf (x.S.set t _) (t:Int)).pc=13∨(spOf (x.S.set t _) (t:Int)).pc=14;rw[set_t htl];show(if _ then(13:Int)else 14)=13∨(if _ then(13:Int)else 14)=14;split<;>simp
 ·rw[if_neg (by show¬(pcT x t=0∨pcT x t=10);omega),Int.toNat_natCast,if_neg (by show¬pcT x t<10;omega)];unfold outC
  rw[if_neg (by show¬pcT x t=11;omega),if_neg (by show¬pcT x t=12;omega),if_pos e];have hl:pcL P x t=10:=by omega
  obtain⟨c0,g0⟩:=hN.2.2.1 (by omega);obtain⟨a0,cB⟩:=hN.2.2.2.2.1 (by omega);exact .st13 e (by show(spOf (x.S.set t _) (t:Int)).pc=_;rw[set_t htl]) (by show(spOf (upd x.loc (P.nd t) _ (P.nd t)) (P.sl t)).pc=11;rw[upd_self];exact(leave_pc (P.pl (P.nd t)) x.σ hl).1) ((w4 2 _ true).trans (by rw[if_pos rfl,a0])) cB g0 g0
 ·rw[if_neg (by show¬(pcT x t=0∨pcT x t=10);omega),Int.toNat_natCast,if_neg (by show¬pcT x t<10;omega)];unfold outC
  rw[if_neg (by show¬pcT x t=11;omega),if_neg (by show¬pcT x t=12;omega),if_neg (by show¬pcT x t=13;omega),if_pos e];have hl:pcL P x t=10:=by omega
  obtain⟨c0,g0⟩:=hN.2.2.1 (by omega);exact .st14 e (by show(spOf (x.S.set t _) (t:Int)).pc=_;rw[set_t htl]) hl (w4 2 0 true) g0 (leave_pc P.pg x.σ g0).1
 ·rw[if_neg (by show¬(pcT x t=0∨pcT x t=10);omega),Int.toNat_natCast,if_neg (by show¬pcT x t<10;omega)];unfold outC
  rw[if_neg (by show¬pcT x t=11;omega),if_neg (by show¬pcT x t=12;omega),if_neg (by show¬pcT x t=13;omega),if_neg (by show¬pcT x t=14;omega),if_pos e];have hl:pcL P x t=10:=by omega
  obtain⟨c0,g0⟩:=hN.2.2.2.2.2 e;rcases(H.og.step_pc (P.nd t)).2.2.2 g0 with⟨b1,b2⟩|⟨b1,b2⟩
  ·rw[if_pos b1]
   exact .got15 e (by show(spOf (x.S.set t _) (t:Int)).pc=_;rw[set_t htl]) (by show(spOf (upd x.loc (P.nd t) _ (P.nd t)) (P.sl t)).pc=11;rw[upd_self];exact(leave_pc (P.pl (P.nd t)) x.σ hl).1) c0 ((q2 _ hn).trans c0) g0 b2
  ·rw[if_neg (by rw[b1];decide)]
   exact .glo15 e e hl c0 ((q2 _ hn).trans c0) g0 b2
 ·rw[if_neg (by show¬(pcT x t=0∨pcT x t=10);omega),Int.toNat_natCast,if_neg (by show¬pcT x t<10;omega)];unfold outC
  rw[if_neg (by show¬pcT x t=11;omega),if_neg (by show¬pcT x t=12;omega),if_neg (by show¬pcT x t=13;omega),if_neg (by show¬pcT x t=14;omega),if_neg (by show¬pcT x t=15;omega),if_pos e];have hl:10<pcL P x t:=by omega
  rcases((H.ol _ hn).step_pc (P.sl t)).2.2.2 hl with⟨b1,b2⟩|⟨b1,b2⟩
  ·rw[if_pos b1]
   exact .got16 e (by show(spOf (x.S.set t _) (t:Int)).pc=_;rw[set_t htl]) (by show(spOf (upd x.loc (P.nd t) _ (P.nd t)) (P.sl t)).pc=0;rw[upd_self];exact b2) (l3 _ hn) rfl
  ·rw[if_neg (by rw[b1];decide)]
   exact .loc16 e e (by show 10<(spOf (upd x.loc (P.nd t) _ (P.nd t)) (P.sl t)).pc;rw[upd_self];exact b2) (l3 _ hn) rfl
end
end Go.Proofs.YtfmiioddhpkdkaaGreat.Co
