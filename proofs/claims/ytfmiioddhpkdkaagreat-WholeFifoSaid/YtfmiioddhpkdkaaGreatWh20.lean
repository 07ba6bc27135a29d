/- Merged texts: Co10, Budget, Bu2, Cm1, Cm2, Cm3, Cm4, Cm5. -/
import Derived.Test.YtfmiioddhpkdkaaGreatWh19
import Derived.Test.YtfmiioddhpkdkaaGreatKit
import Derived.Laws.ResultCell
set_option linter.unusedVariables false
set_option linter.unusedSimpArgs false
namespace Go.Proofs.YtfmiioddhpkdkaaGreat.Co
open Go.RowKit Go.Proofs.YtfmiioddhpkdkaaGreat.Ara Go.Proofs.YtfmiioddhpkdkaaGreat.Lok Go.Proofs.YtfmiioddhpkdkaaGreat.Fl
def doC (P:Pm)(x:CS)(kd i:Int):CS:=if kd=0 then stepC P x i else if kd=1 then askC P x i else if kd=2 then leaveC x i else x
inductive Aw (P:Pm) (x x':CS) (i:Int):Prop where
 |same (h:x'=x)
 |step (t:Nat) (ht:t<P.T) (e:i=t) (hx:x'=stepC P x t) (hm:Mv P x x' t) (ho:Oth P x x' t)
 |ask (t:Nat) (ht:t<P.T) (e:i=t) (h0:pcT x t=0) (h1:pcT x' t=1) (hσ:x'.σ=x.σ) (hg:x'.g=x.g) (hl:x'.loc=upd x.loc (P.nd t) (doK (P.pl (P.nd t)) x.σ (x.loc (P.nd t)) 1 (P.sl t)).2.2) (hl1:pcL P x' t=1) (ho:Oth P x x' t)
 |leave (t:Nat) (ht:t<P.T) (e:i=t) (h0:pcT x t=10) (h1:pcT x' t=11) (ha:(spOf x'.S t).a=(spOf x.S t).a) (hσ:x'.σ=x.σ) (hg:x'.g=x.g) (hl:x'.loc=x.loc) (ho:Oth P x x' t)
section
variable {P:Pm}{x:CS}{m:Nat}(D:Dj P)(H:CI P x m)
include D H
theorem CI.act (kd i:Int):CI P (doC P x kd i) (m+1):=by
 unfold doC;split
 ·exact H.step D i
 ·split
  ·exact H.ask D i
  ·split
   ·exact H.leave D i
   ·exact H.more
theorem CI.aw (kd i:Int):Aw P x (doC P x kd i) i:=by
 unfold doC;split
 ·by_cases h:(spOf x.S i).pc=0
  ·exact .same (by unfold stepC;rw[if_pos (.inl h)])
  ·obtain⟨t,rfl,ht⟩:=H.rngT h
   exact .step t ht rfl rfl (H.mv D ht) (H.oth D ht)
 ·split
  ·unfold askC
   cases hb:turnB x.S i 0 with
   |false=>exact .same (by rw[if_neg (by decide)])
   |true=>
    rw[if_pos rfl];obtain⟨⟨t0,t1⟩,hz⟩:=turn_true hb;obtain⟨t,rfl⟩:=Int.eq_ofNat_of_zero_le t0;have ht:t<P.T:=by have:=H.len;omega
    rw[Int.toNat_natCast]
    have hS:∀u:Nat,spOf (turnS x.S (t:Int) 0 1) u=if u=t then {spOf x.S (t:Int)with pc:=1}else spOf x.S u:=fun u=>by
     rw[spOf_turnS];by_cases e:u=t
     ·rw[if_pos e,if_pos ⟨hb,by omega⟩]
     ·rw[if_neg e,if_neg (fun h=>e (by omega))]
    have hr:=H.rel t ht;unfold relP at hr;have hz':pcT x t=0:=hz;have hask:=ask_pc (P.pl (P.nd t)) x.σ (sp:=x.loc (P.nd t)) (i:=(P.sl t:Int)) (by omega) (by have:=(H.ol _ (D.nd t ht).1).len;have:=(D.nd t ht).2;omega) (by show pcL P x t=0;omega);refine .ask t ht rfl hz (by show(spOf (turnS x.S (t:Int) 0 1) t).pc=1;rw[hS,if_pos rfl]) rfl rfl rfl (by show(spOf (upd x.loc (P.nd t) _ (P.nd t)) (P.sl t)).pc=1;rw[upd_self];exact hask.1) ⟨fun u hu=>by show spOf (turnS x.S (t:Int) 0 1) u=_;rw[hS,if_neg hu],fun u hu hne=>CI.oth_l (x:=x) D ht 1 x.σ hu hne,fun _ _ _=>rfl,fun _ _=>rfl⟩
  ·split
   ·unfold leaveC
    cases hb:turnB x.S i 10 with
    |false=>exact .same (by rw[turn_no _ hb])
    |true=>
     obtain⟨⟨t0,t1⟩,hz⟩:=turn_true hb;obtain⟨t,rfl⟩:=Int.eq_ofNat_of_zero_le t0;have ht:t<P.T:=by have:=H.len;omega
     have hS:∀u:Nat,spOf (turnS x.S (t:Int) 10 11) u=if u=t then {spOf x.S (t:Int)with pc:=11}else spOf x.S u:=fun u=>by
      rw[spOf_turnS];by_cases e:u=t
      ·rw[if_pos e,if_pos ⟨hb,by omega⟩]
      ·rw[if_neg e,if_neg (fun h=>e (by omega))]
     refine .leave t ht rfl hz (by show(spOf (turnS x.S (t:Int) 10 11) t).pc=11;rw[hS,if_pos rfl]) (by show(spOf (turnS x.S (t:Int) 10 11) t).a=_;rw[hS,if_pos rfl]) rfl rfl rfl ⟨fun u hu=>by show spOf (turnS x.S (t:Int) 10 11) u=_;rw[hS,if_neg hu],fun _ _ _=>rfl,fun _ _ _=>rfl,fun _ _=>rfl⟩
   ·exact .same rfl
end
def entB (x x':CS)(i:Int):Bool:=decide ((spOf x.S i).pc<10)&&decide ((spOf x'.S i).pc=10)
theorem entB_no {x x':CS}{t:Nat}(h:¬(pcT x t<10∧pcT x' t=10)):entB x x' t=false:=by
 unfold entB;rw[Bool.and_eq_false_iff];rcases Int.lt_or_le (pcT x t) 10 with h1|h1
 ·exact .inr (decide_eq_false (fun h2=>h ⟨h1,h2⟩))
 ·exact .inl (decide_eq_false (by show¬pcT x t<10;omega))
theorem entB_yes {x x':CS}{t:Nat}(h1:pcT x t<10)(h2:pcT x' t=10):entB x x' t=true:=by
 unfold entB;rw[decide_eq_true h1,decide_eq_true h2];rfl
theorem entB_same {x:CS}{i:Int}:entB x x i=false:=by
 unfold entB;rw[Bool.and_eq_false_iff];rcases Int.lt_or_le (spOf x.S i).pc 10 with h1|h1
 ·exact .inr (decide_eq_false (by omega))
 ·exact .inl (decide_eq_false (by omega))
def ins (pc:Int):Prop:=10≤pc∧pc≤14
def TIn (P:Pm)(x:CS)(last:Option (Nat×Int))(n:Nat):Prop:=0<cnW P x n→pcG x n=10→∃κ,last=some (n,κ)∧((κ=cnW P x n∧∃u,u<P.T∧P.nd u=n∧ins (pcT x u))∨(κ+1=cnW P x n∧∀u,u<P.T→P.nd u=n→¬ins (pcT x u)))
def TI (P:Pm)(x:CS)(last:Option (Nat×Int)):Prop:=∀n,n<P.NN→TIn P x last n
def lastC (P:Pm)(x x':CS)(i:Int)(last:Option (Nat×Int)):Option (Nat×Int):=if entB x x' i then some (P.nd i.toNat,(spOf x'.S i).a)else last
theorem TIn.keep {P:Pm}{x x':CS}{last:Option (Nat×Int)}{n:Nat}(h:TIn P x last n)(hc:cnW P x' n=cnW P x n)(hg:pcG x' n=pcG x n)(hi:∀u,u<P.T→P.nd u=n→(ins (pcT x' u)↔ins (pcT x u))):TIn P x' last n:=by
 intro h1 h2;rw[hc]at h1;rw[hg]at h2;obtain⟨κ,e,h3⟩:=h h1 h2;refine⟨κ,e,?_⟩;rw[hc];rcases h3 with⟨a,u,hu,hn,hi2⟩|⟨a,h4⟩
 ·exact .inl ⟨a,u,hu,hn,(hi u hu hn).2 hi2⟩
 ·exact .inr ⟨a,fun u hu hn hi2=>h4 u hu hn ((hi u hu hn).1 hi2)⟩
section
variable {P:Pm}{x:CS}{m:Nat}(D:Dj P)(H:CI P x m)
include D H
theorem TI.act {last:Option (Nat×Int)}(h:TI P x last)(kd i:Int):TI P (doC P x kd i) (lastC P x (doC P x kd i) i last):=by
 have H':=H.act D kd i;have hw:=H.aw D kd i;generalize doC P x kd i=x' at*
 have others:∀t:Nat,Oth P x x' t→entB x x' t=false→∀n,n<P.NN→n≠P.nd t→TIn P x' (lastC P x x' t last) n:=fun t ho he n hn hne=>by
  have:lastC P x x' t last=last:=by unfold lastC;rw[if_neg (by rw[he];decide)]
  rw[this]
  exact(h n hn).keep (ho.c n hn hne) (ho.g n hne) (fun u hu hnu=>by
   have:u≠t:=fun e=>hne (by rw[←hnu,e]);rw[show pcT x' u=pcT x u from congrArg Sp.pc (ho.S u this)])
 have stay:∀t:Nat,Oth P x x' t→entB x x' t=false→cnW P x' (P.nd t)=cnW P x (P.nd t)→pcG x' (P.nd t)=pcG x (P.nd t)→(ins (pcT x' t)↔ins (pcT x t))→TI P x' (lastC P x x' t last):=fun t ho he hc hg hi n hn=>by
  by_cases e:n=P.nd t
  ·subst e
   have:lastC P x x' t last=last:=by unfold lastC;rw[if_neg (by rw[he];decide)]
   rw[this]
   exact(h _ hn).keep hc hg (fun u hu hnu=>by
    by_cases e:u=t
    ·rw[e];exact hi
    ·rw[show pcT x' u=pcT x u from congrArg Sp.pc (ho.S u e)])
  ·exact others t ho he n hn e
 have none_:∀t:Nat,Oth P x x' t→entB x x' t=false→cnW P x' (P.nd t)=0→TI P x' (lastC P x x' t last):=fun t ho he hc n hn=>by
  by_cases e:n=P.nd t
  ·intro h1
   rw[e,hc]at h1;omega
  ·exact others t ho he n hn e
 have enter:∀t:Nat,t<P.T→pcT x t<10→pcT x' t=10→(spOf x'.S t).a=cnW P x' (P.nd t)→pcG x' (P.nd t)=10→TI P x' (lastC P x x' t last):=fun t ht h1 h2 ha hg n hn h3 h4=>by
  have:n=P.nd t:=by
   have:=H'.og.sole (i:=n) (j:=P.nd t) (by show 10≤pcG x' n;omega) (by show 10≤pcG x' (P.nd t);omega);omega
  subst this;refine⟨cnW P x' (P.nd t),?_,.inl ⟨rfl,t,ht,rfl,by unfold ins;omega⟩⟩;unfold lastC;rw[if_pos (entB_yes h1 h2),Int.toNat_natCast,ha]
 cases hw with
 |same e=>
  subst e;have:lastC P x' x' i last=last:=by unfold lastC;rw[if_neg (by rw[entB_same];decide)]
  rw[this];exact h
 |ask t ht e h0 h1 hσ hg hl hl1 ho=>
  subst e;exact stay t ho (entB_no (by omega)) (by show x'.σ.get _=_;rw[hσ]) (by show(spOf x'.g _).pc=_;rw[hg]) (by unfold ins;omega)
 |leave t ht e h0 h1 ha hσ hg hl ho=>
  subst e;exact stay t ho (entB_no (by omega)) (by show x'.σ.get _=_;rw[hσ]) (by show(spOf x'.g _).pc=_;rw[hg]) (by unfold ins;omega)
 |step t ht e hx hm ho=>
  subst e;cases hm with
  |rest e hp=>
   subst e;have:lastC P x' x' t last=last:=by unfold lastC;rw[if_neg (by rw[entB_same];decide)]
   rw[this];exact h
  |loc1 a b c d e=>exact stay t ho (entB_no (by omega)) d e (by unfold ins;omega)
  |got1 a b c d e=>exact stay t ho (entB_no (by omega)) d e (by unfold ins;omega)
  |ent2 a b c d e f g k=>exact enter t ht (by omega) b (d.trans f.symm) k
  |ask2 a b c d e f g=>exact none_ t ho (entB_no (by omega)) e
  |glo3 a b c d e f g=>exact none_ t ho (entB_no (by omega)) e
  |got3 a b c d e f g=>exact none_ t ho (entB_no (by omega)) e
  |ent4 a b c d e f g k=>exact enter t ht (by omega) b (d.trans f.symm) k
  |ld11 a b c d e f=>exact stay t ho (entB_no (by omega)) d (f.trans e.symm) (by unfold ins;omega)
  |al12 a b c d e f=>exact stay t ho (entB_no (by omega)) d (f.trans e.symm) (by unfold ins;omega)
  |st13 a b c d e f g=>
   intro n hn;by_cases en:n=P.nd t
   ·subst en
    have hno:lastC P x x' t last=last:=by unfold lastC;rw[if_neg (by rw[entB_no (by omega)];decide)]
    rw[hno];intro h1 h2;have hN:=(H.nod t ht).2.2.1 (by omega);obtain⟨κ,e1,e2⟩:=h _ hn hN.1 hN.2;refine⟨κ,e1,.inr ⟨?_,fun u hu hnu hi=> ?_⟩⟩
    ·rcases e2 with e2|e2
     ·omega
     ·exact absurd (show ins (pcT x t) by unfold ins;omega) (e2.2 t ht rfl)
    ·by_cases eu:u=t
     ·subst eu;unfold ins at hi;omega
     ·have:=H.alone D ht (by omega) hu hnu eu
      rw[show pcT x' u=pcT x u from congrArg Sp.pc (ho.S u eu)]at hi;unfold ins at hi;omega
   ·exact others t ho (entB_no (by omega)) n hn en
  |st14 a b c d e f=>exact none_ t ho (entB_no (by omega)) d
  |glo15 a b c d e f g=>exact none_ t ho (entB_no (by omega)) e
  |got15 a b c d e f g=>exact none_ t ho (entB_no (by omega)) e
  |loc16 a b c d e=>exact stay t ho (entB_no (by omega)) d e (by unfold ins;omega)
  |got16 a b c d e=>exact stay t ho (entB_no (by omega)) d e (by unfold ins;omega)
theorem TI.ent {last:Option (Nat×Int)}(h:TI P x last)(kd i:Int)(he:entB x (doC P x kd i) i=true):
 ∃t:Nat,i=t∧t<P.T∧pcT x t<10∧pcT (doC P x kd i) t=10∧pcG x (P.nd t)=10∧pcG (doC P x kd i) (P.nd t)=10∧(spOf (doC P x kd i).S t).a=cnW P (doC P x kd i) (P.nd t)∧1≤cnW P (doC P x kd i) (P.nd t)∧cnW P (doC P x kd i) (P.nd t)≤P.B+1∧
  ((cnW P x (P.nd t)=0∧cnW P (doC P x kd i) (P.nd t)=1)∨(0<cnW P x (P.nd t)∧cnW P (doC P x kd i) (P.nd t)=cnW P x (P.nd t)∧∃κ,last=some (P.nd t,κ)∧κ+1=cnW P x (P.nd t))):=by
 have H':=H.act D kd i;have hw:=H.aw D kd i;generalize doC P x kd i=x' at*
 have no:∀t:Nat,i=t→¬(pcT x t<10∧pcT x' t=10)→False:=fun t e hn=>by
  subst e;rw[entB_no hn]at he;cases he
 cases hw with
 |same e=>subst e;rw[entB_same]at he;cases he
 |ask t ht e h0 h1 hσ hg hl hl1 ho=>exact(no t e (by omega)).elim
 |leave t ht e h0 h1 ha hσ hg hl ho=>exact(no t e (by omega)).elim
 |step t ht e hx hm ho=>
  have hcr:=H'.cr _ (D.nd t ht).1;cases hm with
  |ent2 a b c d e0 f g k=>
   refine⟨t,e,ht,by omega,b,g,k,d.trans f.symm,by omega,hcr.2,.inr ⟨e0,f,?_⟩⟩;obtain⟨κ,e1,e2⟩:=h _ (D.nd t ht).1 e0 g;refine⟨κ,e1,?_⟩;rcases e2 with⟨_,u,hu,hnu,hi⟩|e2
   ·exfalso
    by_cases eu:u=t
    ·subst eu;unfold ins at hi;omega
    ·have:=H.alone D ht (by omega) hu hnu eu
     unfold ins at hi;omega
   ·exact e2.1
  |ent4 a b c d e0 f g k=>exact⟨t,e,ht,by omega,b,g,k,d.trans f.symm,by omega,hcr.2,.inl ⟨e0,f⟩⟩
  |rest e hp=>subst e;rw[entB_same]at he;cases he
  |_=>exact(no t e (by omega)).elim
end
end Go.Proofs.YtfmiioddhpkdkaaGreat.Co
namespace Go.Proofs.YtfmiioddhpkdkaaGreat.Bud
open Go.RowKit
def inB (n a b:Int):Bool:=decide (a≤n)&&decide (n≤b)
def right (b:Int):Bool:=inB b 0 1000
def longest (b:Int):Int×Int:=if right b then(b+1,0)else(0,1)
def ahead (v b:Int):Int×Int:=if right b&&inB v 1 32 then((v-1)*(b+1),0)else(0,1)
def passes (c b:Int)(alone:Bool):Bool:=right b&&inB c 1 b&& !alone
theorem inB_iff {n a b:Int}:inB n a b=true↔a≤n∧n≤b:=by simp[inB]
theorem right_iff {b:Int}:right b=true↔0≤b∧b≤1000:=inB_iff
theorem in_any (n a b:Int)(w:World):
 Calls Tryz.prog 101 #[.int .i64 n,.int .i64 a,.int .i64 b] w fun e w'=>e= .returned (.bool (inB n a b))∧w'=w:=by
 unfold inB;go_enter Tryz.func101,Tryz.ntmps101;go_wp2
 all_goals go_ret
 all_goals exact⟨by simp[*]<;>omega,rfl⟩
theorem right_any (b:Int)(w:World):
 Calls Tryz.prog 79 #[.int .i64 b] w fun e w'=>e= .returned (.bool (right b))∧w'=w:=by
 unfold right;go_enter Tryz.func79,Tryz.ntmps79;go_wp2_with(go_at_call 101;refine(in_any _ _ _ _).mono ?_;rintro e w' ⟨rfl,rfl⟩);go_ret;exact⟨rfl,rfl⟩
end Go.Proofs.YtfmiioddhpkdkaaGreat.Bud
namespace Go.Proofs.YtfmiioddhpkdkaaGreat.Bud
open Go.RowKit
theorem passes_any (c b:Int)(al:Bool)(w:World):
 Calls Tryz.prog 176 #[.int .i64 c,.int .i64 b,.bool al] w fun e w'=>e= .returned (.bool (passes c b al))∧w'=w:=by
 unfold passes;go_enter Tryz.func176,Tryz.ntmps176;go_wp2_with(first|(go_at_call 79;refine(right_any _ _).mono ?_;rintro e w' ⟨rfl,rfl⟩)|(go_at_call 101;refine(in_any _ _ _ _).mono ?_;rintro e w' ⟨rfl,rfl⟩))
 all_goals go_ret
 all_goals exact⟨by simp[*],rfl⟩
end Go.Proofs.YtfmiioddhpkdkaaGreat.Bud
namespace Go.Proofs.YtfmiioddhpkdkaaGreat.Cm
open Go.RowKit Go.Proofs.YtfmiioddhpkdkaaGreat.Ara Go.Proofs.YtfmiioddhpkdkaaGreat.Lok Go.Proofs.YtfmiioddhpkdkaaGreat.Fl Go.Proofs.YtfmiioddhpkdkaaGreat.Co
structure Kp (col:Nat→Nat)(a w:World):Prop where
 os:w.os=a.os
 tape:w.tape=a.tape
 output:w.output=a.output
 size:a.heap.size≤w.heap.size
 block:∀k,k<a.heap.size→col k=0→w.heap[k]? =a.heap[k]?
theorem Kp.refl (col:Nat→Nat)(w:World):Kp col w w:=⟨rfl,rfl,rfl,Nat.le_refl _,fun _ _ _=>rfl⟩
theorem Kp.trans {col:Nat→Nat}{a b c:World}(h:Kp col a b)(k:Kp col b c):Kp col a c:=
 ⟨k.os.trans h.os,k.tape.trans h.tape,k.output.trans h.output,Nat.le_trans h.size k.size,fun i hi hn=>(k.block i (Nat.lt_of_lt_of_le hi h.size) hn).trans (h.block i hi hn)⟩
theorem Kp.of_mod {col:Nat→Nat}{S:List Nat}{a w:World}(h:Mod S a w)(hS:∀b∈S,col b≠0):Kp col a w:=⟨h.os,h.tape,h.output,h.size,fun k hk hc=>h.block k hk (fun hm=>hS k hm hc)⟩
theorem Kp.of_below {col:Nat→Nat}{a w:World}(h:Below a.heap.size a w):Kp col a w:=Kp.of_mod (S:=[]) (Mod.of_below h) (by simp)
theorem Kp.below {col:Nat→Nat}{B:Nat}{a w:World}(h:Kp col a w)(hB:B≤a.heap.size)(hc:∀b,b<B→col b=0):Below B a w:=⟨h.os,h.tape,h.output,h.size,fun k hk=>h.block k (by omega) (hc k hk)⟩
theorem Kp.blk {col:Nat→Nat}{a w:World}(h:Kp col a w){g:Nat}{o:Obj}(hg:a.heap[g]? =some o)(hn:col g=0):w.heap[g]? =some o:=(h.block g (lt_of_blk hg) hn).trans hg
theorem Kp.cell {col:Nat→Nat}{a w:World}(h:Kp col a w){p:Addr}(hp:p.block<a.heap.size)(hn:col p.block=0):w.cell? p=a.cell? p:=by
 unfold World.cell?;rw[h.block _ hp hn]
theorem Kp.own {col:Nat→Nat}{a w:World}(h:Kp col a w){base:Nat}{e:TypeId}{size:Nat}{v:Value}{n:Nat}{xs:List Value}(ho:a.ownsRow base e size v n xs)(hn:∀b,v.ownBlock=some b→col b=0):w.ownsRow base e size v n xs:=by
 obtain⟨h1,h2⟩:=ho;refine⟨h1,?_⟩;rcases h2 with h2|⟨g,cap,cur,rfl,hg,hbk,rest⟩
 ·exact .inl h2
 ·exact .inr ⟨g,cap,cur,rfl,hg,h.blk hbk (hn g rfl),rest⟩
structure Cd where
 gl:Nat
 gt:Nat
 gn:Nat
 gs:Nat
 hn:Nat
 hs:Nat
 ga:Nat
 ha:Nat
 gf:Nat
 gk:Nat
 gh:Nat
 lf:Nat→Nat
 lk:Nat→Nat
 lh:Nat→Nat
 kg:Int
 kl:Int
 par:Int
 tA:Option Addr
 tc:Nat
 cn:Nat
 cs:Nat
 ch:Nat
 col:Nat→Nat
def lkCells (c:Cd)(P:Pm):Array Value:= #[.pointer (some ⟨c.ga,0,none⟩),.pointer (some ⟨c.gt,0,none⟩),.int .i64 c.kg,.int .i64 c.kl,.int .i64 c.par,.int .i64 P.B,.pointer (some ⟨c.gf,0,none⟩),.slice (some ⟨c.hn,0,none⟩) P.NN c.ch,.slice (some ⟨c.hs,0,none⟩) P.T P.T]
structure CoS (W:World)(c:Cd)(P:Pm):Prop where
 lk_:W.heap[c.gl]? =some (.cells (lkCells c P) 176 (0,0))
 t1:W.cell? ⟨c.gt,1,none⟩=some (.slice c.tA P.T c.tc)
 t2:W.cell? ⟨c.gt,2,none⟩=some (.int .u32 1)
 t6:W.cell? ⟨c.gt,6,none⟩=some (.slice (some ⟨c.gn,0,none⟩) P.T c.cn)
 t7:W.cell? ⟨c.gt,7,none⟩=some (.slice (some ⟨c.gs,0,none⟩) P.T c.cs)
 rn:∀k,k<P.T→W.cell? ⟨c.gn,k,none⟩=some (.int .i64 (P.nd k:Int))
 rs:∀k,k<P.T→W.cell? ⟨c.gs,k,none⟩=some (.int .i64 (P.sl k:Int))
 nr:∀n,n<P.NN→W.cell? ⟨c.hn,n*2,none⟩=some (.pointer (some ⟨c.lf n,0,none⟩))∧W.cell? ⟨c.hn,n*2+1,none⟩=some (.int .i64 (P.cw n))
 c0:c.col c.gl=0∧c.col c.gt=0∧c.col c.gn=0∧c.col c.gs=0∧c.col c.hn=0∧c.col c.gf=0∧c.col c.gk=0
 cl:∀n,n<P.NN→c.col (c.lf n)=0∧c.col (c.lk n)=0∧c.col (c.lh n)=5+n
 ch:c.col c.ga=1∧c.col c.ha=2∧c.col c.hs=3∧c.col c.gh=4
 sz:c.gt<W.heap.size∧c.gn<W.heap.size∧c.gs<W.heap.size∧c.hn<W.heap.size∧c.ha<W.heap.size
 fresh:∀b,W.heap.size≤b→c.col b=0
structure CoD (W:World)(c:Cd)(P:Pm)(x:CS):Prop where
 ar:ArAt W c.ga c.ha x.σ
 sp:SpAt W c.hs x.S
 fg:FLAt W c.gf c.gk c.ga c.ha c.gh P.pg x.σ x.g
 fl:∀n,n<P.NN→FLAt W (c.lf n) (c.lk n) c.ga c.ha (c.lh n) (P.pl n) x.σ (x.loc n)
structure CoAt (W:World)(c:Cd)(P:Pm)(x:CS):Prop where
 s:CoS W c P
 d:CoD W c P x
 len:x.S.length=P.T
structure Lw (c:Cd)(NN B:Nat):Prop where
 a:(B≤c.gl∧B≤c.gt∧B≤c.gn∧B≤c.gs)∧(B≤c.hn∧B≤c.hs∧B≤c.gf∧B≤c.gk∧B≤c.gh)
 l:∀n,n<NN→B≤c.lf n∧B≤c.lk n∧B≤c.lh n
section
variable {W W':World}{c:Cd}{P:Pm}
theorem CoS.kp (h:CoS W c P)(hk:Kp c.col W W'):CoS W' c P:=by
 obtain⟨a1,a2,a3,a4,a5,a6,a7⟩:=h.c0;obtain⟨s1,s2,s3,s4,s5⟩:=h.sz
 refine⟨hk.blk h.lk_ a1,(hk.cell (p:=⟨c.gt,1,none⟩) s1 a2).trans h.t1,(hk.cell (p:=⟨c.gt,2,none⟩) s1 a2).trans h.t2,(hk.cell (p:=⟨c.gt,6,none⟩) s1 a2).trans h.t6,(hk.cell (p:=⟨c.gt,7,none⟩) s1 a2).trans h.t7,
  fun k hk'=>(hk.cell (p:=⟨c.gn,k,none⟩) s2 a3).trans (h.rn k hk'),fun k hk'=>(hk.cell (p:=⟨c.gs,k,none⟩) s3 a4).trans (h.rs k hk'),
  fun n hn=>⟨(hk.cell (p:=⟨c.hn,n*2,none⟩) s4 a5).trans (h.nr n hn).1,(hk.cell (p:=⟨c.hn,n*2+1,none⟩) s4 a5).trans (h.nr n hn).2⟩,h.c0,h.cl,h.ch,?_,fun b hb=>h.fresh b (Nat.le_trans hk.size hb)⟩
 have:=hk.size;omega
variable {x:CS}(K:CoAt W c P x)
include K
theorem CoAt.same (hb:Below W.heap.size W W'):CoAt W' c P x:=
 ⟨K.s.kp (Kp.of_below hb),⟨K.d.ar.step hb,K.d.sp.mod (S:=[]) (Mod.of_below hb) (by simp),K.d.fg.same hb,fun n hn=>(K.d.fl n hn).same hb⟩,K.len⟩
theorem CoAt.low {B:Nat}(hl:Lw c P.NN B){S:List Nat}(hm:Mod S W W')(hS:∀b∈S,b<B∧b≠c.ga∧b≠c.ha):CoAt W' c P x:=by
 obtain⟨⟨a1,a2,a3,a4⟩,a5,a6,a7,a8,a9⟩:=hl.a;obtain⟨s1,s2,s3,s4,s5⟩:=K.s.sz;have ne:∀q,B≤q→q∉S:=fun q hq hx=>by have:=(hS q hx).1;omega
 have n1:c.ga∉S:=fun hx=>(hS _ hx).2.1 rfl;have n2:c.ha∉S:=fun hx=>(hS _ hx).2.2 rfl
 have cm:∀(g i:Nat),g<W.heap.size→B≤g→W'.cell? ⟨g,i,none⟩=W.cell? ⟨g,i,none⟩:=fun g i h1 h2=>by
  unfold World.cell?;rw[hm.block g h1 (ne g h2)]
 have hsz:=hm.size
 refine⟨⟨hm.blk K.s.lk_ (ne _ a1),(cm _ _ s1 a2).trans K.s.t1,(cm _ _ s1 a2).trans K.s.t2,(cm _ _ s1 a2).trans K.s.t6,(cm _ _ s1 a2).trans K.s.t7,fun k hk=>(cm _ _ s2 a3).trans (K.s.rn k hk),fun k hk=>(cm _ _ s3 a4).trans (K.s.rs k hk),fun n hn=>⟨(cm _ _ s4 a5).trans (K.s.nr n hn).1,(cm _ _ s4 a5).trans (K.s.nr n hn).2⟩,K.s.c0,K.s.cl,K.s.ch,by omega,fun b hb=>K.s.fresh b (by omega)⟩,
  ⟨K.d.ar.mod hm n1 n2,K.d.sp.mod hm (ne _ a6),K.d.fg.mod hm (ne _ a7) (ne _ a8) n1 n2 (ne _ a9),fun n hn=> ?_⟩,K.len⟩
 obtain⟨l1,l2,l3⟩:=hl.l n hn;exact(K.d.fl n hn).mod hm (ne _ l1) (ne _ l2) n1 n2 (ne _ l3)
theorem CoAt.wrd {σ':Ar}(ha:ArAt W' c.ga c.ha σ')(hm:Mod [c.ga,c.ha] W W'):CoAt W' c P {x with σ:=σ'}∧Kp c.col W W':=by
 obtain⟨h1,h2,h3,h4⟩:=K.s.ch;obtain⟨_,_,_,_,_,a6,a7⟩:=K.s.c0
 have ne:∀b,c.col b≠1→c.col b≠2→b∉ [c.ga,c.ha]:=fun b q1 q2 hb=>by
  simp at hb;rcases hb with e|e<;>(rw[e]at q1 q2;omega)
 have hk:Kp c.col W W':=Kp.of_mod hm (fun b hb=>by
  simp at hb;rcases hb with e|e<;>(rw[e];omega))
 refine⟨⟨K.s.kp hk,⟨ha,K.d.sp.mod hm (ne _ (by omega) (by omega)),K.d.fg.arena hm (ne _ (by omega) (by omega)) (ne _ (by omega) (by omega)) (ne _ (by omega) (by omega)) ha,fun n hn=> ?_⟩,K.len⟩,hk⟩;obtain⟨b1,b2,b3⟩:=K.s.cl n hn;exact(K.d.fl n hn).arena hm (ne _ (by omega) (by omega)) (ne _ (by omega) (by omega)) (ne _ (by omega) (by omega)) ha
theorem CoAt.glo {σ':Ar}{g':List Sp}(hf:FLAt W' c.gf c.gk c.ga c.ha c.gh P.pg σ' g')(hm:Mod [c.ga,c.ha,c.gh] W W'):CoAt W' c P {x with σ:=σ',g:=g'}∧Kp c.col W W':=by
 obtain⟨h1,h2,h3,h4⟩:=K.s.ch;have ha:=hf.at_.facts.1
 have ne:∀b,c.col b≠1→c.col b≠2→c.col b≠4→b∉ [c.ga,c.ha,c.gh]:=fun b q1 q2 q3 hb=>by
  simp at hb;rcases hb with e|e|e<;>(rw[e]at q1 q2 q3;omega)
 have hk:Kp c.col W W':=Kp.of_mod hm (fun b hb=>by
  simp at hb;rcases hb with e|e|e<;>(rw[e];omega))
 refine⟨⟨K.s.kp hk,⟨ha,K.d.sp.mod hm (ne _ (by omega) (by omega) (by omega)),hf,fun n hn=> ?_⟩,K.len⟩,hk⟩;obtain⟨b1,b2,b3⟩:=K.s.cl n hn;exact(K.d.fl n hn).arena hm (ne _ (by omega) (by omega) (by omega)) (ne _ (by omega) (by omega) (by omega)) (ne _ (by omega) (by omega) (by omega)) ha
theorem CoAt.loc {n:Nat}(hn:n<P.NN){σ':Ar}{l':List Sp}(hf:FLAt W' (c.lf n) (c.lk n) c.ga c.ha (c.lh n) (P.pl n) σ' l')(hm:Mod [c.ga,c.ha,c.lh n] W W'):CoAt W' c P {x with σ:=σ',loc:=upd x.loc n l'}∧Kp c.col W W':=by
 obtain⟨h1,h2,h3,h4⟩:=K.s.ch;obtain⟨_,_,_,_,_,a6,a7⟩:=K.s.c0;obtain⟨_,_,bn⟩:=K.s.cl n hn;have ha:=hf.at_.facts.1
 have ne:∀b,c.col b≠1→c.col b≠2→c.col b≠5+n→b∉ [c.ga,c.ha,c.lh n]:=fun b q1 q2 q3 hb=>by
  simp at hb;rcases hb with e|e|e<;>(rw[e]at q1 q2 q3;omega)
 have hk:Kp c.col W W':=Kp.of_mod hm (fun b hb=>by
  simp at hb;rcases hb with e|e|e<;>(rw[e];omega))
 refine⟨⟨K.s.kp hk,⟨ha,K.d.sp.mod hm (ne _ (by omega) (by omega) (by omega)),K.d.fg.arena hm (ne _ (by omega) (by omega) (by omega)) (ne _ (by omega) (by omega) (by omega)) (ne _ (by omega) (by omega) (by omega)) ha,fun k hkk=> ?_⟩,K.len⟩,hk⟩;obtain⟨b1,b2,b3⟩:=K.s.cl k hkk;by_cases e:k=n
 ·subst e
  show FLAt W' _ _ _ _ _ _ _ (upd x.loc k l' k);rw[upd_self];exact hf
 ·show FLAt W' _ _ _ _ _ _ _ (upd x.loc n l' k)
  rw[upd_other _ _ e];exact(K.d.fl k hkk).arena hm (ne _ (by omega) (by omega) (by omega)) (ne _ (by omega) (by omega) (by omega)) (ne _ (by omega) (by omega) (by omega)) ha
theorem CoAt.spot {k:Nat}(hk:k<P.T)(j:Nat)(hj:j<4)(v:Value)(s':Sp)(hv:decSp s'=(decSp (spOf x.S (k:Int))).set j v):CoAt (W.setCell ⟨c.hs,k*4+j,none⟩ v) c P {x with S:=x.S.set k s'}∧Kp c.col W (W.setCell ⟨c.hs,k*4+j,none⟩ v):=by
 obtain⟨h1,h2,h3,h4⟩:=K.s.ch;obtain⟨_,_,_,_,_,a6,a7⟩:=K.s.c0;have hm:Mod [c.hs] W (W.setCell ⟨c.hs,k*4+j,none⟩ v):=(Mod.refl _ _).setCell (by simp) _
 have ne:∀b,c.col b≠3→b∉ [c.hs]:=fun b q1 hb=>by
  simp at hb;rw[hb]at q1;omega
 have hkp:Kp c.col W (W.setCell ⟨c.hs,k*4+j,none⟩ v):=Kp.of_mod hm (fun b hb=>by
  simp at hb;rw[hb];omega)
 have hl:k<x.S.length:=by rw[K.len];exact hk
 have ha:=K.d.ar.mod hm (ne _ (by omega)) (ne _ (by omega));refine⟨⟨K.s.kp hkp,⟨ha,K.d.sp.set k hl j hj v s' (by rw[hv,spOf_in hl]),K.d.fg.mod hm (ne _ (by omega)) (ne _ (by omega)) (ne _ (by omega)) (ne _ (by omega)) (ne _ (by omega)),fun n hn=> ?_⟩,by show(x.S.set k s').length=_;rw[List.length_set];exact K.len⟩,hkp⟩;obtain⟨b1,b2,b3⟩:=K.s.cl n hn;exact(K.d.fl n hn).mod hm (ne _ (by omega)) (ne _ (by omega)) (ne _ (by omega)) (ne _ (by omega)) (ne _ (by omega))
theorem CoAt.cells:W.cell? ⟨c.gl,0,none⟩=some (.pointer (some ⟨c.ga,0,none⟩))∧W.cell? ⟨c.gl,1,none⟩=some (.pointer (some ⟨c.gt,0,none⟩))∧W.cell? ⟨c.gl,5,none⟩=some (.int .i64 P.B)∧W.cell? ⟨c.gl,6,none⟩=some (.pointer (some ⟨c.gf,0,none⟩))∧
 W.cell? ⟨c.gl,7,none⟩=some (.slice (some ⟨c.hn,0,none⟩) P.NN c.ch)∧W.cell? ⟨c.gl,8,none⟩=some (.slice (some ⟨c.hs,0,none⟩) P.T P.T):=
 ⟨blk_cell K.s.lk_ 0 (by simp[lkCells]),blk_cell K.s.lk_ 1 (by simp[lkCells]),blk_cell K.s.lk_ 5 (by simp[lkCells]),blk_cell K.s.lk_ 6 (by simp[lkCells]),blk_cell K.s.lk_ 7 (by simp[lkCells]),blk_cell K.s.lk_ 8 (by simp[lkCells])⟩
theorem CoAt.spots {k:Nat}(hk:k<P.T):W.cell? ⟨c.hs,k*4,none⟩=some (.int .i64 (spOf x.S (k:Int)).pc)∧W.cell? ⟨c.hs,k*4+1,none⟩=some (.int .i64 (spOf x.S (k:Int)).a)∧W.cell? ⟨c.hs,k*4+2,none⟩=some (.int .i64 (spOf x.S (k:Int)).b)∧W.cell? ⟨c.hs,k*4+3,none⟩=some (.int .i64 (spOf x.S (k:Int)).c)∧∀j,W.frozen? ⟨c.hs,j,none⟩=false:=by
 have hl:k<x.S.length:=by rw[K.len];exact hk
 rw[spOf_in hl];exact K.d.sp.cells k hl
theorem CoAt.lt:c.gl<W.heap.size∧c.hs<W.heap.size:=⟨lt_of_blk K.s.lk_,K.d.sp.lt⟩
end
end Go.Proofs.YtfmiioddhpkdkaaGreat.Cm
namespace Go.Proofs.YtfmiioddhpkdkaaGreat.Cm
open Go.RowKit Go.Proofs.YtfmiioddhpkdkaaGreat.Ara Go.Proofs.YtfmiioddhpkdkaaGreat.Lok Go.Proofs.YtfmiioddhpkdkaaGreat.Fl Go.Proofs.YtfmiioddhpkdkaaGreat.Co
section
variable {W:World}{c:Cd}{P:Pm}{x:CS}(K:CoAt W c P x)
include K
theorem threads_co:Calls Tryz.prog 168 #[.pointer (some ⟨c.gl,0,none⟩)] W fun e w'=>e= .returned (.int .i64 (P.T:Int))∧w'=W:=by
 obtain⟨-,-,-,-,-,c8⟩:=K.cells;clear K;go_enter Tryz.func168,Tryz.ntmps168;go_wp2_with fail;go_ret;exact⟨rfl,rfl⟩
theorem has_co (i:Int):Calls Tryz.prog 169 #[.pointer (some ⟨c.gl,0,none⟩),.int .i64 i] W fun e w'=>e= .returned (.bool (decide (0≤i)&&decide (i<(P.T:Int))))∧w'=W:=by
 have HT:=Lib.hid (threads_co K);clear K;by_cases h0:0≤i
 ·by_cases h1:i<(P.T:Int)
  ·have HN:=Lib.hid (show(decide (0≤i)&&decide (i<(P.T:Int)))=true by rw[decide_eq_true h0,decide_eq_true h1];rfl)
   go_enter Tryz.func169,Tryz.ntmps169;go_wp2_with fail;refine(HT.out).mono ?_;rintro e wx ⟨rfl,hwx⟩;obtain rfl:=hwx.symm;go_wp2_with fail;go_ret;exact⟨by rw[HN.out];rfl,rfl⟩
  ·have HN:=Lib.hid (show(decide (0≤i)&&decide (i<(P.T:Int)))=false by rw[decide_eq_false h1,Bool.and_false])
   have q1:=decide_eq_false h1;go_enter Tryz.func169,Tryz.ntmps169;go_wp2_with fail;refine(HT.out).mono ?_;rintro e wx ⟨rfl,hwx⟩;obtain rfl:=hwx.symm;go_wp2_with fail;go_ret;exact⟨by rw[HN.out];rfl,rfl⟩
 ·have HN:=Lib.hid (show(decide (0≤i)&&decide (i<(P.T:Int)))=false by rw[decide_eq_false h0,Bool.false_and])
  go_enter Tryz.func169,Tryz.ntmps169;go_wp2_with fail;go_ret;exact⟨by rw[HN.out];rfl,rfl⟩
theorem has_in (k:Nat)(hk:k<P.T):Calls Tryz.prog 169 #[.pointer (some ⟨c.gl,0,none⟩),.int .i64 (k:Int)] W fun e w'=>e= .returned (.bool true)∧w'=W:=by
 have:=has_co K (k:Int);rw[decide_eq_true (by omega),decide_eq_true (by omega)]at this;exact this
theorem has_out (i:Int)(hi:i<0∨(P.T:Int)≤i):Calls Tryz.prog 169 #[.pointer (some ⟨c.gl,0,none⟩),.int .i64 i] W fun e w'=>e= .returned (.bool false)∧w'=W:=by
 have:=has_co K i
 rw[show(decide (0≤i)&&decide (i<(P.T:Int)))=false by
  rcases hi with h|h
  ·rw[decide_eq_false (by omega),Bool.false_and]
  ·rw[decide_eq_false (show¬i<(P.T:Int) by omega),Bool.and_false]]at this
 exact this
theorem CoAt.out {i:Int}(hi:i<0∨(P.T:Int)≤i):spOf x.S i=sp0:=spOf_out (by have:=K.len;omega)
theorem spot_co (i:Int):Calls Tryz.prog 166 #[.pointer (some ⟨c.gl,0,none⟩),.int .i64 i] W fun e w'=>e= .returned (.agg #[.int .i64 (spOf x.S i).pc,.int .i64 (spOf x.S i).a,.int .i64 (spOf x.S i).b,.int .i64 (spOf x.S i).c])∧Below W.heap.size W w':=by
 have HK:=Lib.hid (K.same (below_new W (.cells #[.int .i64 0,.int .i64 0,.int .i64 0,.int .i64 0] 134)));by_cases hi:i<0∨(P.T:Int)≤i
 ·rw[K.out hi]
  have HS:=Lib.hid (has_out HK.out i hi);clear K hi;go_enter Tryz.func166,Tryz.ntmps166;go_wp2_with fail;refine(HS.out).mono ?_;rintro e wx ⟨rfl,hwx⟩;obtain rfl:=hwx.symm;go_wp2_with fail;exact bodyPost_ret (v:= .agg #[.int .i64 0,.int .i64 0,.int .i64 0,.int .i64 0]) (by simp[results,Tryz.results166,go_sem]) rfl ⟨rfl,by first|exact(Below.refl _ _).alloc (Nat.le_refl _) _|exact(((((Below.refl _ _).alloc (Nat.le_refl _) _).setCell (Nat.le_refl _) _).setCell (Nat.le_refl _) _).setCell (Nat.le_refl _) _).setCell (Nat.le_refl _) _⟩
 ·obtain⟨k,rfl⟩:=Int.eq_ofNat_of_zero_le (show 0≤i by omega)
  have hk:k<P.T:=by omega
  have i1:(k:Int)<(P.T:Int):=by omega
  have HS:=Lib.hid (has_in HK.out k hk);obtain⟨c0,c1,c2,c3,-⟩:=HK.out.spots hk;obtain⟨-,-,-,-,-,c8⟩:=HK.out.cells;obtain⟨l1,l2⟩:=K.lt;clear K hi;generalize spOf x.S (k:Int)=s at*;obtain⟨xp,xa,xb,xc⟩:=s;simp only at c0 c1 c2 c3⊢;go_enter Tryz.func166,Tryz.ntmps166;go_wp2_with fail;refine(HS.out).mono ?_;rintro e wx ⟨rfl,hwx⟩;obtain rfl:=hwx.symm;go_wp2_with fail;exact bodyPost_ret (v:= .agg #[.int .i64 xp,.int .i64 xa,.int .i64 xb,.int .i64 xc]) (by simp[results,Tryz.results166,go_sem]) rfl ⟨rfl,by first|exact(Below.refl _ _).alloc (Nat.le_refl _) _|exact(((((Below.refl _ _).alloc (Nat.le_refl _) _).setCell (Nat.le_refl _) _).setCell (Nat.le_refl _) _).setCell (Nat.le_refl _) _).setCell (Nat.le_refl _) _⟩
end
end Go.Proofs.YtfmiioddhpkdkaaGreat.Cm
namespace Go.Proofs.YtfmiioddhpkdkaaGreat.Cm
open Go.RowKit Go.Proofs.YtfmiioddhpkdkaaGreat.Ara Go.Proofs.YtfmiioddhpkdkaaGreat.Lok Go.Proofs.YtfmiioddhpkdkaaGreat.Fl Go.Proofs.YtfmiioddhpkdkaaGreat.Co
def cntV (s:Sp):Int:=if s.pc=10 then s.a else 0
section
variable {W:World}{c:Cd}{P:Pm}{x:CS}(K:CoAt W c P x)
include K
set_option maxRecDepth 100000 in
theorem of_co (D:Dj P)(k:Nat)(hk:k<P.T):Calls Tryz.prog 170 #[.pointer (some ⟨c.gl,0,none⟩),.int .i64 (k:Int)] W fun e w'=>e= .returned (.tuple #[.agg #[.pointer (some ⟨c.lf (P.nd k),0,none⟩),.int .i64 (P.cw (P.nd k))],.int .i64 (P.nd k:Int),.int .i64 (P.sl k:Int)])∧Below W.heap.size W w':=by
 have hnd:=(D.nd k hk).1;have hlt:=K.lt.1;have s5:=K.s.sz;go_enter Tryz.func170,Tryz.ntmps170;go_upto_region 1 with fail;have hb0:=below_new W (.cells #[.pointer none,.int .i64 0] 179);have hB0:=blk_new W (.cells #[.pointer none,.int .i64 0] 179);generalize W.alloc (.cells #[.pointer none,.int .i64 0] 179)=W1 at*;have HK1:=Lib.hid (K.same hb0);have HB1:=Lib.hid hb0;have HX1:=Lib.hid hB0;have hsz1:=hb0.size;have hN:=Pa.node_in HK1.out.s.t2 c.tA P.T c.tc k c.gn c.cn _ hk HK1.out.s.t1 HK1.out.s.t6 (HK1.out.s.rn k hk);have HN:=Lib.hid hN;obtain⟨-,c1,-,-,c7,-⟩:=HK1.out.cells;clear K hb0 hB0 hN;go_upto_region 2 with(go_at_call 89;refine HN.out.mono ?_;rintro e wx ⟨rfl,hwx⟩;obtain rfl:=hwx.symm);clear c1 c7 HN;have hKd:CoAt W1.drew c P x:=HK1.out.same (Below.drew (Below.refl _ _));have HKd:=Lib.hid hKd;have hBd:W1.drew.heap[W.heap.size]? =some (.cells #[.pointer none,.int .i64 0] 179 (0,0)):=HX1.out;have hbd:Below W.heap.size W W1.drew:=Below.drew HB1.out;obtain⟨-,c1,-,-,c7,-⟩:=hKd.cells;obtain⟨n0,n1⟩:=hKd.s.nr _ hnd;have SW0:W1.drew.cell? ⟨c.gl,1,none⟩=some (.pointer (some ⟨c.gt,0,none⟩))∧W1.drew.cell? ⟨c.gl,7,none⟩=some (.slice (some ⟨c.hn,0,none⟩) P.NN c.ch)∧W1.drew.cell? ⟨c.hn,P.nd k*2,none⟩=some (.pointer (some ⟨c.lf (P.nd k),0,none⟩))∧W1.drew.cell? ⟨c.hn,P.nd k*2+1,none⟩=some (.int .i64 (P.cw (P.nd k))):=⟨c1,c7,n0,n1⟩;refine wp_region_held_drew (S:=fun V=>V.cell? ⟨c.gl,1,none⟩=some (.pointer (some ⟨c.gt,0,none⟩))∧V.cell? ⟨c.gl,7,none⟩=some (.slice (some ⟨c.hn,0,none⟩) P.NN c.ch)∧V.cell? ⟨c.hn,P.nd k*2,none⟩=some (.pointer (some ⟨c.lf (P.nd k),0,none⟩))∧V.cell? ⟨c.hn,P.nd k*2+1,none⟩=some (.int .i64 (P.cw (P.nd k)))) (by kernel_rfl) SW0 (fun hHeld=> ?_);have hsl:=Pa.slot_in hKd.s.t2 c.tA P.T c.tc k c.gs c.cs _ hk hKd.s.t1 hKd.s.t7 (hKd.s.rs k hk);have HSL:=Lib.hid hsl;clear c1 c7 n0 n1 hKd HK1 HB1 HX1 hsl;generalize W1.drew=X0 at*;generalize hn9:P.nd k=n at*;generalize hs9:P.sl k=sl at*;have HN9:=Lib.hid hn9;have HS9:=Lib.hid hs9;clear hn9 hs9;refine take_to 0 (some 14) (v:= ?_) rfl rfl (by kernel_rfl) (by kernel_rfl) (by kernel_rfl) (fun _ _ _ h=>h) (Or.inl ⟨by rfl,?_⟩) (by first|trivial|assumption) ?_;rotate_left;focus(intro w hSw;(try dsimp only at hSw);go_simp;(try with_reducible rfl))
 simp only[Act.put,List.setIfInBounds_toArray,List.set_cons_zero,List.set_cons_succ];refine take_to 1 (some 15) (v:= ?_) rfl rfl (by kernel_rfl) (by kernel_rfl) (by kernel_rfl) (fun _ _ _ h=>h) (Or.inl ⟨by rfl,?_⟩) (by first|trivial|assumption) ?_;rotate_left;focus(intro w hSw;(try dsimp only at hSw);go_simp;(try with_reducible rfl))
 simp only[Act.put,List.setIfInBounds_toArray,List.set_cons_zero,List.set_cons_succ];refine take_to 2 (some 16) (v:= ?_) rfl rfl (by kernel_rfl) (by kernel_rfl) (by kernel_rfl) (fun _ _ _ h=>h) (Or.inl ⟨by rfl,?_⟩) (by first|trivial|assumption) ?_;rotate_left;focus(intro w hSw;(try dsimp only at hSw);go_simp;(try with_reducible rfl))
 simp only[Act.put,List.setIfInBounds_toArray,List.set_cons_zero,List.set_cons_succ];refine take_to 3 (some 17) (v:= ?_) rfl rfl (by kernel_rfl) (by kernel_rfl) (by kernel_rfl) (fun _ _ _ h=>h) (Or.inl ⟨by rfl,?_⟩) (by first|trivial|assumption) ?_;rotate_left;focus(intro w hSw;(try dsimp only at hSw);go_simp;(try with_reducible rfl))
 simp only[Act.put,List.setIfInBounds_toArray,List.set_cons_zero,List.set_cons_succ];refine take_to 4 (some 18) (v:= ?_) rfl rfl (by kernel_rfl) (by kernel_rfl) (by kernel_rfl) (fun _ _ _ h=>h) (Or.inl ⟨by rfl,?_⟩) (by first|trivial|assumption) ?_;rotate_left;focus(intro w hSw;(try dsimp only at hSw);go_simp;(try with_reducible rfl))
 simp only[Act.put,List.setIfInBounds_toArray,List.set_cons_zero,List.set_cons_succ];refine take_to 5 (some 19) (v:= ?_) rfl rfl (by kernel_rfl) (by kernel_rfl) (by kernel_rfl) (fun _ _ _ h=>h) (Or.inl ⟨by rfl,?_⟩) (by first|trivial|assumption) ?_;rotate_left;focus(intro w hSw;(try dsimp only at hSw);go_simp;(try with_reducible rfl))
 simp only[Act.put,List.setIfInBounds_toArray,List.set_cons_zero,List.set_cons_succ];refine take_to 6 (some 20) (v:= ?_) rfl rfl (by kernel_rfl) (by kernel_rfl) (by kernel_rfl) (fun _ _ _ h=>h) (Or.inl ⟨by rfl,?_⟩) (by first|trivial|assumption) ?_;rotate_left;focus(intro w hSw;(try dsimp only at hSw);go_simp;(try with_reducible rfl))
 simp only[Act.put,List.setIfInBounds_toArray,List.set_cons_zero,List.set_cons_succ];refine take_to 7 (some 21) (v:= ?_) rfl rfl (by kernel_rfl) (by kernel_rfl) (by kernel_rfl) (fun _ _ _ h=>h) (Or.inl ⟨by rfl,?_⟩) (by first|trivial|assumption) ?_;rotate_left;focus(intro w hSw;(try dsimp only at hSw);go_simp;(try with_reducible rfl))
 simp only[Act.put,List.setIfInBounds_toArray,List.set_cons_zero,List.set_cons_succ];refine take_to 8 (some 22) (v:= ?_) rfl rfl (by kernel_rfl) (by kernel_rfl) (by kernel_rfl) (fun _ _ _ h=>h) (Or.inl ⟨by rfl,?_⟩) (by first|trivial|assumption) ?_;rotate_left;focus(intro w hSw;(try dsimp only at hSw);go_simp;(try with_reducible rfl))
 simp only[Act.put,List.setIfInBounds_toArray,List.set_cons_zero,List.set_cons_succ];refine take_to 9 (some 23) (v:= ?_) rfl rfl (by kernel_rfl) (by kernel_rfl) (by kernel_rfl) (fun _ _ _ h=>h) (Or.inl ⟨by rfl,?_⟩) (by first|trivial|assumption) ?_;rotate_left;focus(intro w hSw;(try dsimp only at hSw);go_simp;(try with_reducible rfl))
 simp only[Act.put,List.setIfInBounds_toArray,List.set_cons_zero,List.set_cons_succ];refine take_to 10 (some 24) (v:= ?_) rfl rfl (by kernel_rfl) (by kernel_rfl) (by kernel_rfl) (fun _ _ _ h=>h) (Or.inl ⟨by rfl,?_⟩) (by first|trivial|assumption) ?_;rotate_left;focus(intro w hSw;(try dsimp only at hSw);go_simp;(try with_reducible rfl))
 simp only[Act.put,List.setIfInBounds_toArray,List.set_cons_zero,List.set_cons_succ];refine take_to 11 (some 25) (v:= ?_) rfl rfl (by kernel_rfl) (by kernel_rfl) (by kernel_rfl) (fun _ _ _ h=>h) (Or.inl ⟨by rfl,?_⟩) (by first|trivial|assumption) ?_;rotate_left;focus(intro w hSw;(try dsimp only at hSw);go_simp;(try with_reducible rfl))
 simp only[Act.put,List.setIfInBounds_toArray,List.set_cons_zero,List.set_cons_succ];refine take_to 12 (some 26) (v:= ?_) rfl rfl (by kernel_rfl) (by kernel_rfl) (by kernel_rfl) (fun _ _ _ h=>h) (Or.inl ⟨by rfl,?_⟩) (by first|trivial|assumption) ?_;rotate_left;focus(intro w hSw;(try dsimp only at hSw);go_simp;(try with_reducible rfl))
 simp only[Act.put,List.setIfInBounds_toArray,List.set_cons_zero,List.set_cons_succ];refine wpAnyH_ready (rs:=[13]) (by kernel_rfl) (by simp) ?_;refine AllReadyH.cons rfl (fun K hK=> ?_) AllReadyH.nil;go_simp;refine HSL.out.mono ?_;rintro e w2 ⟨rfl,hw2⟩;obtain rfl:=hw2.symm;go_simp;refine hK.out _ _ SW0 (fun hHeld=> ?_);have b0:=blk_cell hBd 0 (by simp);have b1:=blk_cell hBd 1 (by simp);have f0:=blk_free hBd 0;have f1:=blk_free hBd 1;have B1:=blk_set hBd 0 (.pointer (some ⟨c.lf n,0,none⟩));have B2:=blk_set B1 1 (.int .i64 (P.cw n));have r0:=blk_cell B2 0 (by simp);have r1:=blk_cell B2 1 (by simp);simp at r0 r1 b0 b1;clear B1 B2;have HBd:=Lib.hid hbd;have HBn:=Lib.hid hBd;clear hBd hbd;have hm:Mod [W.heap.size] X0 ((X0.setCell ⟨W.heap.size,0,none⟩ (.pointer (some ⟨c.lf n,0,none⟩))).setCell ⟨W.heap.size,1,none⟩ (.int .i64 (P.cw n))):=((Mod.refl _ _).setCell (by simp) _).setCell (by simp) _
 have SW1:((X0.setCell ⟨W.heap.size,0,none⟩ (.pointer (some ⟨c.lf n,0,none⟩))).setCell ⟨W.heap.size,1,none⟩ (.int .i64 (P.cw n))).cell? ⟨c.gl,1,none⟩=some (.pointer (some ⟨c.gt,0,none⟩))∧((X0.setCell ⟨W.heap.size,0,none⟩ (.pointer (some ⟨c.lf n,0,none⟩))).setCell ⟨W.heap.size,1,none⟩ (.int .i64 (P.cw n))).cell? ⟨c.gl,7,none⟩=some (.slice (some ⟨c.hn,0,none⟩) P.NN c.ch)∧((X0.setCell ⟨W.heap.size,0,none⟩ (.pointer (some ⟨c.lf n,0,none⟩))).setCell ⟨W.heap.size,1,none⟩ (.int .i64 (P.cw n))).cell? ⟨c.hn,n*2,none⟩=some (.pointer (some ⟨c.lf n,0,none⟩))∧((X0.setCell ⟨W.heap.size,0,none⟩ (.pointer (some ⟨c.lf n,0,none⟩))).setCell ⟨W.heap.size,1,none⟩ (.int .i64 (P.cw n))).cell? ⟨c.hn,n*2+1,none⟩=some (.int .i64 (P.cw n)):=by
  have hs0:=HBd.out.size;exact⟨(Pa.cell_mod hm (p:=⟨c.gl,1,none⟩) (by show c.gl<_;omega) (by simp;omega)).trans SW0.1,(Pa.cell_mod hm (p:=⟨c.gl,7,none⟩) (by show c.gl<_;omega) (by simp;omega)).trans SW0.2.1,(Pa.cell_mod hm (p:=⟨c.hn,n*2,none⟩) (by show c.hn<_;omega) (by simp;omega)).trans SW0.2.2.1,(Pa.cell_mod hm (p:=⟨c.hn,n*2+1,none⟩) (by show c.hn<_;omega) (by simp;omega)).trans SW0.2.2.2⟩
 have HF:=Lib.hid (show Below W.heap.size W ((X0.setCell ⟨W.heap.size,0,none⟩ (.pointer (some ⟨c.lf n,0,none⟩))).setCell ⟨W.heap.size,1,none⟩ (.int .i64 (P.cw n))) from(HBd.out.setCell (p:=⟨W.heap.size,0,none⟩) (Nat.le_refl _) _).setCell (p:=⟨W.heap.size,1,none⟩) (Nat.le_refl _) _);clear hm;refine wpAnyH_ready (rs:=[14]) (by kernel_rfl) (by simp) ?_;refine AllReadyH.cons rfl (fun K hK=> ?_) AllReadyH.nil;go_simp;refine hK.out _ _ SW1 (fun hHeld=> ?_);refine take_to 15 (some 5) (v:= ?_) rfl rfl (by kernel_rfl) (by kernel_rfl) (by kernel_rfl) (fun _ _ _ h=>h) (Or.inl ⟨by rfl,?_⟩) (by first|trivial|assumption) ?_;rotate_left;focus(intro w hSw;(try dsimp only at hSw);go_simp;(try with_reducible rfl))
 simp only[Act.put,List.setIfInBounds_toArray,List.set_cons_zero,List.set_cons_succ];refine take_to 16 (some 6) (v:= ?_) rfl rfl (by kernel_rfl) (by kernel_rfl) (by kernel_rfl) (fun _ _ _ h=>h) (Or.inl ⟨by rfl,?_⟩) (by first|trivial|assumption) ?_;rotate_left;focus(intro w hSw;(try dsimp only at hSw);go_simp;(try with_reducible rfl))
 simp only[Act.put,List.setIfInBounds_toArray,List.set_cons_zero,List.set_cons_succ];refine wpAnyH_done (by kernel_rfl) ?_ _;go_wp2_with fail
 (try simp only[Exit.inBlock,Exit.then])
 exact bodyPost_ret (v:= .tuple #[.agg #[.pointer (some ⟨c.lf n,0,none⟩),.int .i64 (P.cw n)],.int .i64 (n:Int),.int .i64 (sl:Int)]) (by simp[results,Tryz.results170,go_sem,r0,r1]) rfl ⟨by rw[HN9.out,HS9.out],HF.out⟩
set_option maxRecDepth 100000 in
theorem count_co (i:Int):Calls Tryz.prog 164 #[.pointer (some ⟨c.gl,0,none⟩),.int .i64 i] W fun e w'=>e= .returned (.int .i64 (cntV (spOf x.S i)))∧Below W.heap.size W w':=by
 have HS:=Lib.hid (spot_co K i);clear K;generalize spOf x.S i=s at*;obtain⟨xp,xa,xb,xc⟩:=s;simp only at HS⊢;by_cases h:xp=10
 ·have HN:=Lib.hid (show cntV ⟨xp,xa,xb,xc⟩=xa from if_pos h)
  have q:=ibne_no h;go_enter Tryz.func164,Tryz.ntmps164;go_wp2_with fail;refine HS.out.mono ?_;rintro e w2 ⟨rfl,hb⟩;have HB:=Lib.hid hb;clear hb;go_wp2_with fail;go_ret;exact⟨by rw[HN.out];rfl,HB.out.alloc HB.out.size _⟩
 ·have HN:=Lib.hid (show cntV ⟨xp,xa,xb,xc⟩=0 from if_neg h)
  have q:=ibne h;go_enter Tryz.func164,Tryz.ntmps164;go_wp2_with fail;refine HS.out.mono ?_;rintro e w2 ⟨rfl,hb⟩;have HB:=Lib.hid hb;clear hb;go_wp2_with fail;go_ret;exact⟨by rw[HN.out];rfl,HB.out.alloc HB.out.size _⟩
end
end Go.Proofs.YtfmiioddhpkdkaaGreat.Cm
namespace Go.Proofs.YtfmiioddhpkdkaaGreat.Cm
open Go.RowKit Go.Proofs.YtfmiioddhpkdkaaGreat.Ara Go.Proofs.YtfmiioddhpkdkaaGreat.Lok Go.Proofs.YtfmiioddhpkdkaaGreat.Fl Go.Proofs.YtfmiioddhpkdkaaGreat.Co
theorem fld0 (a b c d:Value)(W:World):(Instr.field 134 (.agg #[a,b,c,d]) 0).run Tryz.prog W= .ok a W:=by kernel_rfl
section
variable {W:World}{c:Cd}{P:Pm}{x:CS}(K:CoAt W c P x)
include K
end
end Go.Proofs.YtfmiioddhpkdkaaGreat.Cm
namespace Go.Proofs.YtfmiioddhpkdkaaGreat.Cm
open Go.RowKit Go.Proofs.YtfmiioddhpkdkaaGreat.Ara Go.Proofs.YtfmiioddhpkdkaaGreat.Lok Go.Proofs.YtfmiioddhpkdkaaGreat.Fl Go.Proofs.YtfmiioddhpkdkaaGreat.Co
def Aft (c:Cd)(P:Pm)(x':CS)(b:Bool)(W:World)(e:Ending)(w':World):Prop:=e= .returned (.bool b)∧CoAt w' c P x'∧Kp c.col W w'
section
variable {W:World}{c:Cd}{P:Pm}{x:CS}(K:CoAt W c P x)
include K
theorem Aft.self {b:Bool}{e:Ending}{w':World}(he:e= .returned (.bool b))(hb:Below W.heap.size W w'):Aft c P x b W e w':=⟨he,K.same hb,Kp.of_below hb⟩
theorem leave_co (i:Int):Calls Tryz.prog 165 #[.pointer (some ⟨c.gl,0,none⟩),.int .i64 i] W (Aft c P (leaveC x i) (turnB x.S i 10) W):=by
 have HS:=Lib.hid (spot_co K i);have q1:=fun a b c d W=>fld0 a b c d W;by_cases hb:turnB x.S i 10=true
 ·obtain⟨⟨i0,i1⟩,h10⟩:=turn_true hb
  obtain⟨k,rfl⟩:=Int.eq_ofNat_of_zero_le i0;have hk:k<P.T:=by have:=K.len;omega
  have i2:(k:Int)<(P.T:Int):=by omega
  have HK:=Lib.hid (fun W' (h:Below W.heap.size W W')=>K.same h)
  have HX:=Lib.hid (show leaveC x (k:Int)={x with S:=x.S.set k {spOf x.S (k:Int)with pc:=11}} by
   unfold leaveC turnS;rw[if_pos hb,Int.toNat_natCast])
  have HD:=Lib.hid (show decSp {spOf x.S (k:Int)with pc:=11}=(decSp (spOf x.S (k:Int))).set 0 (.int .i64 11) from rfl);rw[hb,HX.out];clear K HX hb;generalize hsp:spOf x.S (k:Int)=s at*;have HSP:=Lib.hid hsp;clear hsp;obtain⟨xp,xa,xb,xc⟩:=s;simp only at HS h10;subst h10;go_enter Tryz.func165,Tryz.ntmps165;go_wp2_with fail;refine HS.out.mono ?_;rintro e w2 ⟨rfl,hb⟩;have HB:=Lib.hid hb;have HK2:=Lib.hid (HK.out _ hb);obtain⟨c0,-,-,-,fz⟩:=HK2.out.spots hk;obtain⟨-,-,-,-,-,c8⟩:=HK2.out.cells;have f0:=fz (k*4);rw[HSP.out]at c0;clear fz hb;go_wp2_with fail;have hF:=HK2.out.spot hk 0 (by omega) (.int .i64 11) {(⟨10,xa,xb,xc⟩:Sp)with pc:=11} (by rw[HSP.out];exact HD.out);go_ret;exact⟨rfl,hF.1,(Kp.of_below HB.out).trans hF.2⟩
 ·have hb':turnB x.S i 10=false:=by simpa using hb
  have HX:=Lib.hid (show leaveC x i=x by unfold leaveC;rw[turn_no _ hb']);have HA:=Lib.hid (fun(e:Ending) w' (he:e= .returned (.bool false)) (h:Below W.heap.size W w')=>Aft.self K he h)
  have hne:¬(spOf x.S i).pc=10:=fun h=>by
   obtain⟨i0,i1⟩:=spOf_range (sp:=x.S) (i:=i) (by omega);exact hb (by unfold turnB;rw[decide_eq_true i0,decide_eq_true i1,h];rfl)
  rw[hb',HX.out];clear K hb hb' HX;generalize spOf x.S i=s at*;obtain⟨xp,xa,xb,xc⟩:=s;simp only at HS hne;have q2:=ibne hne;go_enter Tryz.func165,Tryz.ntmps165;go_wp2_with fail;refine HS.out.mono ?_;rintro e w2 ⟨rfl,hb⟩;go_wp2_with fail;go_ret;exact HA.out _ _ rfl hb
theorem ask_co (D:Dj P){m:Nat}(H:CI P x m)(hm:m≤100000)(i:Int):Calls Tryz.prog 163 #[.pointer (some ⟨c.gl,0,none⟩),.int .i64 i] W (Aft c P (askC P x i) (turnB x.S i 0) W):=by
 by_cases hi:i<0∨(P.T:Int)≤i
 ·have HH:=Lib.hid (has_out K i hi)
  have hb':turnB x.S i 0=false:=turn_out (by have:=K.len;omega) 0;have HX:=Lib.hid (show askC P x i=x by unfold askC;rw[hb',if_neg (by decide)]);have HA:=Lib.hid (fun(e:Ending) w' (he:e= .returned (.bool false)) (h:Below W.heap.size W w')=>Aft.self K he h);rw[hb',HX.out];clear K hb' HX hi H;go_enter Tryz.func163,Tryz.ntmps163;go_wp2_with fail;refine(HH.out).mono ?_;rintro e wx ⟨rfl,hwx⟩;obtain rfl:=hwx.symm;go_wp2_with fail;go_ret;exact HA.out _ _ rfl (Below.refl _ _)
 ·obtain⟨k,rfl⟩:=Int.eq_ofNat_of_zero_le (show 0≤i by omega)
  have hk:k<P.T:=by omega
  have i2:(k:Int)<(P.T:Int):=by omega
  have HH:=Lib.hid (has_in K k hk);obtain⟨c0,-,-,-,fz⟩:=K.spots hk;obtain⟨-,-,-,-,-,c8⟩:=K.cells;have HK:=Lib.hid K;by_cases h0:(spOf x.S (k:Int)).pc=0
  ·have hl:k<x.S.length:=by rw[K.len];exact hk
   have hb:turnB x.S (k:Int) 0=true:=by
    unfold turnB;rw[decide_eq_true (by omega),decide_eq_true (by omega),h0];rfl
   have hnd:=(D.nd k hk).1;have HO:=Lib.hid (of_co K D k hk);have HF:=Lib.hid (fun W' (hb:Below W.heap.size W W')=>Ask_flat ((K.same hb).d.fl _ hnd) (P.mt (P.nd k)) m (H.ol _ hnd) hm (P.sl k:Int))
   have HX:=Lib.hid (show askC P x (k:Int)=⟨x.σ,x.g,upd x.loc (P.nd k) (doK (P.pl (P.nd k)) x.σ (x.loc (P.nd k)) 1 (P.sl k)).2.2,x.S.set k {spOf x.S (k:Int)with pc:=1}⟩ by
    unfold askC turnS;rw[if_pos hb,if_pos hb,Int.toNat_natCast])
   have HS9:=Lib.hid (show(doK (P.pl (P.nd k)) x.σ (x.loc (P.nd k)) 1 (P.sl k)).2.1=x.σ from do12 _ _ _ (.inl rfl) _);rw[hb,HX.out];have q0:=ibne_no h0;rw[h0]at c0;clear K hb HX fz h0 H;generalize hdk:doK (P.pl (P.nd k)) x.σ (x.loc (P.nd k)) 1 (P.sl k)=r at*;have HDK:=Lib.hid hdk;clear hdk;obtain⟨rb,rσ,rl⟩:=r;simp only at HS9⊢;go_enter Tryz.func163,Tryz.ntmps163;go_wp2_with fail;refine(HH.out).mono ?_;rintro e wx ⟨rfl,hwx⟩;obtain rfl:=hwx.symm;go_wp2_with fail;refine HO.out.mono ?_;rintro e w2 ⟨rfl,hb⟩;have HB:=Lib.hid hb;clear hb c0 c8;go_wp2_with fail;have hb3:=HB.out.trans ((below_new w2 (.cells #[.pointer (some ⟨c.lf (P.nd k),0,none⟩),.int .i64 (P.cw (P.nd k))] 179)).mono HB.out.size);refine(HF.out _ hb3).mono ?_;rintro e w4 ⟨rfl,hf4,hm4⟩;have h4:=(HK.out.same hb3).loc hnd hf4 hm4;simp only[HS9.out]at h4;have HK4:=Lib.hid h4.1;have HP4:=Lib.hid ((Kp.of_below hb3).trans h4.2);clear hf4 hm4 h4 hb3;obtain⟨c0,-,-,-,fz⟩:=HK4.out.spots hk;obtain⟨-,-,-,-,-,c8⟩:=HK4.out.cells;have f0:=fz (k*4);clear fz;have hF:=HK4.out.spot hk 0 (by omega) (.int .i64 1) {spOf x.S (k:Int)with pc:=1} rfl;have HF9:=Lib.hid hF;clear hF;go_wp2_with fail;go_ret;exact⟨rfl,HF9.out.1,HP4.out.trans HF9.out.2⟩
  ·have hb':turnB x.S (k:Int) 0=false:=by
    unfold turnB;rw[show((spOf x.S (k:Int)).pc==0)=false from ibeq_no h0,Bool.and_false]
   have HX:=Lib.hid (show askC P x (k:Int)=x by unfold askC;rw[hb',if_neg (by decide)]);have HA:=Lib.hid (fun(e:Ending) w' (he:e= .returned (.bool false)) (h:Below W.heap.size W w')=>Aft.self K he h);rw[hb',HX.out];clear K hb' HX fz H;have q2:=ibne h0;generalize(spOf x.S (k:Int)).pc=xp at*;go_enter Tryz.func163,Tryz.ntmps163;go_wp2_with fail;refine(HH.out).mono ?_;rintro e wx ⟨rfl,hwx⟩;obtain rfl:=hwx.symm;go_wp2_with fail;go_ret;exact HA.out _ _ rfl (Below.refl _ _)
end
end Go.Proofs.YtfmiioddhpkdkaaGreat.Cm
