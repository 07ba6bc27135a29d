/- Merged texts: Co8, Co9, Co10, Budget, Bu2, Cm1, Cm2, Cm3. -/
import Derived.Test.YtfmiioddhpkdkaaGreatWz17
import Derived.Test.YtfmiioddhpkdkaaGreatKit
import Derived.Laws.ResultCell
set_option linter.unusedVariables false
set_option linter.unusedSimpArgs false
set_option maxRecDepth 100000
set_option maxHeartbeats 8000000
namespace Go.Proofs.YtfmiioddhpkdkaaGreat.Co
open Go.RowKit Ara Lok Fl
section
variable {P:Pm}{x:CS}{m:Nat}(D:Dj P)(H:CI P x m)
include D H
end
end Go.Proofs.YtfmiioddhpkdkaaGreat.Co
namespace Go.Proofs.YtfmiioddhpkdkaaGreat.Co
open Go.RowKit Ara Lok Fl
section
variable {P:Pm}{x:CS}{m:Nat}(D:Dj P)(H:CI P x m)
include D H
end
end Go.Proofs.YtfmiioddhpkdkaaGreat.Co
namespace Go.Proofs.YtfmiioddhpkdkaaGreat.Co
open Go.RowKit Ara Lok Fl
section
variable {P:Pm}{x:CS}{m:Nat}(D:Dj P)(H:CI P x m)
include D H
end
section
variable {P:Pm}{x:CS}{m:Nat}(D:Dj P)(H:CI P x m)
include D H
end
end Go.Proofs.YtfmiioddhpkdkaaGreat.Co
namespace Go.Proofs.YtfmiioddhpkdkaaGreat.Bud
open Go.RowKit
def inB (n a b:Int):Bool:=decide (a≤n)&&decide (n≤b)
def right (b:Int):Bool:=inB b 0 1000
def passes (c b:Int)(alone:Bool):Bool:=right b&&inB c 1 b&& !alone
theorem inB_iff {n a b:Int}:inB n a b=true↔a≤n∧n≤b:=by simp[inB]
theorem right_iff {b:Int}:right b=true↔0≤b∧b≤1000:=inB_iff
theorem in_any (n a b:Int)(w:World):
 Calls Tryz.prog 101 #[.int .i64 n,.int .i64 a,.int .i64 b] w fun e w'=>e= .returned (.bool (inB n a b))∧w'=w:=by
 unfold inB;go_enter Tryz.func101,Tryz.ntmps101;go_wp2
 all_goals go_ret
 all_goals exact⟨by simp[*]<;>omega,rfl⟩
theorem right_any (b:Int)(w:World):
 Calls Tryz.prog 79 #[.int .i64 b] w fun e w'=>e= .returned (.bool (right b))∧w'=w:=by
 unfold right;go_enter Tryz.func79,Tryz.ntmps79;go_wp2_with(go_at_call 101;refine(in_any _ _ _ _).mono ?_;rintro e w' ⟨rfl,rfl⟩);go_ret;exact⟨rfl,rfl⟩
end Go.Proofs.YtfmiioddhpkdkaaGreat.Bud
namespace Go.Proofs.YtfmiioddhpkdkaaGreat.Bud
open Go.RowKit
theorem passes_any (c b:Int)(al:Bool)(w:World):
 Calls Tryz.prog 176 #[.int .i64 c,.int .i64 b,.bool al] w fun e w'=>e= .returned (.bool (passes c b al))∧w'=w:=by
 unfold passes;go_enter Tryz.func176,Tryz.ntmps176;go_wp2_with(first|(go_at_call 79;refine(right_any _ _).mono ?_;rintro e w' ⟨rfl,rfl⟩)|(go_at_call 101;refine(in_any _ _ _ _).mono ?_;rintro e w' ⟨rfl,rfl⟩))
 all_goals go_ret
 all_goals exact⟨by simp[*],rfl⟩
end Go.Proofs.YtfmiioddhpkdkaaGreat.Bud
namespace Go.Proofs.YtfmiioddhpkdkaaGreat.Cm
open Go.RowKit Ara Lok Fl Co
structure Kp (col:Nat→Nat)(a w:World):Prop where
 os:w.os=a.os
 tape:w.tape=a.tape
 output:w.output=a.output
 size:a.heap.size≤w.heap.size
 block:∀k,k<a.heap.size→col k=0→w.heap[k]? =a.heap[k]?
theorem Kp.trans {col:Nat→Nat}{a b c:World}(h:Kp col a b)(k:Kp col b c):Kp col a c:=
 ⟨k.os.trans h.os,k.tape.trans h.tape,k.output.trans h.output,Nat.le_trans h.size k.size,fun i hi hn=>(k.block i (Nat.lt_of_lt_of_le hi h.size) hn).trans (h.block i hi hn)⟩
theorem Kp.of_mod {col:Nat→Nat}{S:List Nat}{a w:World}(h:Mod S a w)(hS:∀b∈S,col b≠0):Kp col a w:=⟨h.os,h.tape,h.output,h.size,fun k hk hc=>h.block k hk (fun hm=>hS k hm hc)⟩
theorem Kp.of_below {col:Nat→Nat}{a w:World}(h:Below a.heap.size a w):Kp col a w:=Kp.of_mod (S:=[]) (Mod.of_below h) (by simp)
theorem Kp.blk {col:Nat→Nat}{a w:World}(h:Kp col a w){g:Nat}{o:Obj}(hg:a.heap[g]? =some o)(hn:col g=0):w.heap[g]? =some o:=(h.block g (lt_of_blk hg) hn).trans hg
theorem Kp.cell {col:Nat→Nat}{a w:World}(h:Kp col a w){p:Addr}(hp:p.block<a.heap.size)(hn:col p.block=0):w.cell? p=a.cell? p:=by
 unfold World.cell?;rw[h.block _ hp hn]
structure Cd where
 gl:Nat
 gt:Nat
 gn:Nat
 gs:Nat
 hn:Nat
 hs:Nat
 ga:Nat
 ha:Nat
 gf:Nat
 gk:Nat
 gh:Nat
 lf:Nat→Nat
 lk:Nat→Nat
 lh:Nat→Nat
 kg:Int
 kl:Int
 par:Int
 tA:Option Addr
 tc:Nat
 cn:Nat
 cs:Nat
 ch:Nat
 col:Nat→Nat
def lkCells (c:Cd)(P:Pm):Array Value:= #[.pointer (some ⟨c.ga,0,none⟩),.pointer (some ⟨c.gt,0,none⟩),.int .i64 c.kg,.int .i64 c.kl,.int .i64 c.par,.int .i64 P.B,.pointer (some ⟨c.gf,0,none⟩),.slice (some ⟨c.hn,0,none⟩) P.NN c.ch,.slice (some ⟨c.hs,0,none⟩) P.T P.T]
structure CoS (W:World)(c:Cd)(P:Pm):Prop where
 lk_:W.heap[c.gl]? =some (.cells (lkCells c P) 176 (0,0))
 t1:W.cell? ⟨c.gt,1,none⟩=some (.slice c.tA P.T c.tc)
 t2:W.cell? ⟨c.gt,2,none⟩=some (.int .u32 1)
 t6:W.cell? ⟨c.gt,6,none⟩=some (.slice (some ⟨c.gn,0,none⟩) P.T c.cn)
 t7:W.cell? ⟨c.gt,7,none⟩=some (.slice (some ⟨c.gs,0,none⟩) P.T c.cs)
 rn:∀k,k<P.T→W.cell? ⟨c.gn,k,none⟩=some (.int .i64 (P.nd k:Int))
 rs:∀k,k<P.T→W.cell? ⟨c.gs,k,none⟩=some (.int .i64 (P.sl k:Int))
 nr:∀n,n<P.NN→W.cell? ⟨c.hn,n*2,none⟩=some (.pointer (some ⟨c.lf n,0,none⟩))∧W.cell? ⟨c.hn,n*2+1,none⟩=some (.int .i64 (P.cw n))
 c0:c.col c.gl=0∧c.col c.gt=0∧c.col c.gn=0∧c.col c.gs=0∧c.col c.hn=0∧c.col c.gf=0∧c.col c.gk=0
 cl:∀n,n<P.NN→c.col (c.lf n)=0∧c.col (c.lk n)=0∧c.col (c.lh n)=5+n
 ch:c.col c.ga=1∧c.col c.ha=2∧c.col c.hs=3∧c.col c.gh=4
 sz:c.gt<W.heap.size∧c.gn<W.heap.size∧c.gs<W.heap.size∧c.hn<W.heap.size∧c.ha<W.heap.size
 fresh:∀b,W.heap.size≤b→c.col b=0
structure CoD (W:World)(c:Cd)(P:Pm)(x:CS):Prop where
 ar:ArAt W c.ga c.ha x.σ
 sp:SpAt W c.hs x.S
 fg:FLAt W c.gf c.gk c.ga c.ha c.gh P.pg x.σ x.g
 fl:∀n,n<P.NN→FLAt W (c.lf n) (c.lk n) c.ga c.ha (c.lh n) (P.pl n) x.σ (x.loc n)
structure CoAt (W:World)(c:Cd)(P:Pm)(x:CS):Prop where
 s:CoS W c P
 d:CoD W c P x
 len:x.S.length=P.T
structure Lw (c:Cd)(NN B:Nat):Prop where
 a:(B≤c.gl∧B≤c.gt∧B≤c.gn∧B≤c.gs)∧(B≤c.hn∧B≤c.hs∧B≤c.gf∧B≤c.gk∧B≤c.gh)
 l:∀n,n<NN→B≤c.lf n∧B≤c.lk n∧B≤c.lh n
section
variable {W W':World}{c:Cd}{P:Pm}
theorem CoS.kp (h:CoS W c P)(hk:Kp c.col W W'):CoS W' c P:=by
 obtain⟨a1,a2,a3,a4,a5,a6,a7⟩:=h.c0;obtain⟨s1,s2,s3,s4,s5⟩:=h.sz
 refine⟨hk.blk h.lk_ a1,(hk.cell (p:=⟨c.gt,1,none⟩) s1 a2).trans h.t1,(hk.cell (p:=⟨c.gt,2,none⟩) s1 a2).trans h.t2,(hk.cell (p:=⟨c.gt,6,none⟩) s1 a2).trans h.t6,(hk.cell (p:=⟨c.gt,7,none⟩) s1 a2).trans h.t7,
  fun k hk'=>(hk.cell (p:=⟨c.gn,k,none⟩) s2 a3).trans (h.rn k hk'),fun k hk'=>(hk.cell (p:=⟨c.gs,k,none⟩) s3 a4).trans (h.rs k hk'),
  fun n hn=>⟨(hk.cell (p:=⟨c.hn,n*2,none⟩) s4 a5).trans (h.nr n hn).1,(hk.cell (p:=⟨c.hn,n*2+1,none⟩) s4 a5).trans (h.nr n hn).2⟩,h.c0,h.cl,h.ch,?_,fun b hb=>h.fresh b (Nat.le_trans hk.size hb)⟩
 have:=hk.size;omega
variable {x:CS}(K:CoAt W c P x)
include K
theorem CoAt.same (hb:Below W.heap.size W W'):CoAt W' c P x:=
 ⟨K.s.kp (Kp.of_below hb),⟨K.d.ar.step hb,K.d.sp.mod (S:=[]) (Mod.of_below hb) (by simp),K.d.fg.same hb,fun n hn=>(K.d.fl n hn).same hb⟩,K.len⟩
theorem CoAt.low {B:Nat}(hl:Lw c P.NN B){S:List Nat}(hm:Mod S W W')(hS:∀b∈S,b<B∧b≠c.ga∧b≠c.ha):CoAt W' c P x:=by
 obtain⟨⟨a1,a2,a3,a4⟩,a5,a6,a7,a8,a9⟩:=hl.a;obtain⟨s1,s2,s3,s4,s5⟩:=K.s.sz;have ne:∀q,B≤q→q∉S:=fun q hq hx=>by have:=(hS q hx).1;omega
 have n1:c.ga∉S:=fun hx=>(hS _ hx).2.1 rfl;have n2:c.ha∉S:=fun hx=>(hS _ hx).2.2 rfl
 have cm:∀(g i:Nat),g<W.heap.size→B≤g→W'.cell? ⟨g,i,none⟩=W.cell? ⟨g,i,none⟩:=fun g i h1 h2=>by
  unfold World.cell?;rw[hm.block g h1 (ne g h2)]
 have hsz:=hm.size
 refine⟨⟨hm.blk K.s.lk_ (ne _ a1),(cm _ _ s1 a2).trans K.s.t1,(cm _ _ s1 a2).trans K.s.t2,(cm _ _ s1 a2).trans K.s.t6,(cm _ _ s1 a2).trans K.s.t7,fun k hk=>(cm _ _ s2 a3).trans (K.s.rn k hk),fun k hk=>(cm _ _ s3 a4).trans (K.s.rs k hk),fun n hn=>⟨(cm _ _ s4 a5).trans (K.s.nr n hn).1,(cm _ _ s4 a5).trans (K.s.nr n hn).2⟩,K.s.c0,K.s.cl,K.s.ch,by omega,fun b hb=>K.s.fresh b (by omega)⟩,
  ⟨K.d.ar.mod hm n1 n2,K.d.sp.mod hm (ne _ a6),K.d.fg.mod hm (ne _ a7) (ne _ a8) n1 n2 (ne _ a9),fun n hn=> ?_⟩,K.len⟩
 obtain⟨l1,l2,l3⟩:=hl.l n hn;exact(K.d.fl n hn).mod hm (ne _ l1) (ne _ l2) n1 n2 (ne _ l3)
theorem CoAt.wrd {σ':Ar}(ha:ArAt W' c.ga c.ha σ')(hm:Mod [c.ga,c.ha] W W'):CoAt W' c P {x with σ:=σ'}∧Kp c.col W W':=by
 obtain⟨h1,h2,h3,h4⟩:=K.s.ch;obtain⟨_,_,_,_,_,a6,a7⟩:=K.s.c0
 have ne:∀b,c.col b≠1→c.col b≠2→b∉ [c.ga,c.ha]:=fun b q1 q2 hb=>by
  simp at hb;rcases hb with e|e<;>(rw[e]at q1 q2;omega)
 have hk:Kp c.col W W':=Kp.of_mod hm (fun b hb=>by
  simp at hb;rcases hb with e|e<;>(rw[e];omega))
 refine⟨⟨K.s.kp hk,⟨ha,K.d.sp.mod hm (ne _ (by omega) (by omega)),K.d.fg.arena hm (ne _ (by omega) (by omega)) (ne _ (by omega) (by omega)) (ne _ (by omega) (by omega)) ha,fun n hn=> ?_⟩,K.len⟩,hk⟩;obtain⟨b1,b2,b3⟩:=K.s.cl n hn;exact(K.d.fl n hn).arena hm (ne _ (by omega) (by omega)) (ne _ (by omega) (by omega)) (ne _ (by omega) (by omega)) ha
theorem CoAt.glo {σ':Ar}{g':List Sp}(hf:FLAt W' c.gf c.gk c.ga c.ha c.gh P.pg σ' g')(hm:Mod [c.ga,c.ha,c.gh] W W'):CoAt W' c P {x with σ:=σ',g:=g'}∧Kp c.col W W':=by
 obtain⟨h1,h2,h3,h4⟩:=K.s.ch;have ha:=hf.at_.facts.1
 have ne:∀b,c.col b≠1→c.col b≠2→c.col b≠4→b∉ [c.ga,c.ha,c.gh]:=fun b q1 q2 q3 hb=>by
  simp at hb;rcases hb with e|e|e<;>(rw[e]at q1 q2 q3;omega)
 have hk:Kp c.col W W':=Kp.of_mod hm (fun b hb=>by
  simp at hb;rcases hb with e|e|e<;>(rw[e];omega))
 refine⟨⟨K.s.kp hk,⟨ha,K.d.sp.mod hm (ne _ (by omega) (by omega) (by omega)),hf,fun n hn=> ?_⟩,K.len⟩,hk⟩;obtain⟨b1,b2,b3⟩:=K.s.cl n hn;exact(K.d.fl n hn).arena hm (ne _ (by omega) (by omega) (by omega)) (ne _ (by omega) (by omega) (by omega)) (ne _ (by omega) (by omega) (by omega)) ha
theorem CoAt.loc {n:Nat}(hn:n<P.NN){σ':Ar}{l':List Sp}(hf:FLAt W' (c.lf n) (c.lk n) c.ga c.ha (c.lh n) (P.pl n) σ' l')(hm:Mod [c.ga,c.ha,c.lh n] W W'):CoAt W' c P {x with σ:=σ',loc:=upd x.loc n l'}∧Kp c.col W W':=by
 obtain⟨h1,h2,h3,h4⟩:=K.s.ch;obtain⟨_,_,_,_,_,a6,a7⟩:=K.s.c0;obtain⟨_,_,bn⟩:=K.s.cl n hn;have ha:=hf.at_.facts.1
 have ne:∀b,c.col b≠1→c.col b≠2→c.col b≠5+n→b∉ [c.ga,c.ha,c.lh n]:=fun b q1 q2 q3 hb=>by
  simp at hb;rcases hb with e|e|e<;>(rw[e]at q1 q2 q3;omega)
 have hk:Kp c.col W W':=Kp.of_mod hm (fun b hb=>by
  simp at hb;rcases hb with e|e|e<;>(rw[e];omega))
 refine⟨⟨K.s.kp hk,⟨ha,K.d.sp.mod hm (ne _ (by omega) (by omega) (by omega)),K.d.fg.arena hm (ne _ (by omega) (by omega) (by omega)) (ne _ (by omega) (by omega) (by omega)) (ne _ (by omega) (by omega) (by omega)) ha,fun k hkk=> ?_⟩,K.len⟩,hk⟩;obtain⟨b1,b2,b3⟩:=K.s.cl k hkk;by_cases e:k=n
 ·subst e
  show FLAt W' _ _ _ _ _ _ _ (upd x.loc k l' k);rw[upd_self];exact hf
 ·show FLAt W' _ _ _ _ _ _ _ (upd x.loc n l' k)
  rw[upd_other _ _ e];exact(K.d.fl k hkk).arena hm (ne _ (by omega) (by omega) (by omega)) (ne _ (by omega) (by omega) (by omega)) (ne _ (by omega) (by omega) (by omega)) ha
theorem CoAt.spot {k:Nat}(hk:k<P.T)(j:Nat)(hj:j<4)(v:Value)(s':Sp)(hv:decSp s'=(decSp (spOf x.S (k:Int))).set j v):CoAt (W.setCell ⟨c.hs,k*4+j,none⟩ v) c P {x with S:=x.S.set k s'}∧Kp c.col W (W.setCell ⟨c.hs,k*4+j,none⟩ v):=by
 obtain⟨h1,h2,h3,h4⟩:=K.s.ch;obtain⟨_,_,_,_,_,a6,a7⟩:=K.s.c0;have hm:Mod [c.hs] W (W.setCell ⟨c.hs,k*4+j,none⟩ v):=(Mod.refl _ _).setCell (by simp) _
 have ne:∀b,c.col b≠3→b∉ [c.hs]:=fun b q1 hb=>by
  simp at hb;rw[hb]at q1;omega
 have hkp:Kp c.col W (W.setCell ⟨c.hs,k*4+j,none⟩ v):=Kp.of_mod hm (fun b hb=>by
  simp at hb;rw[hb];omega)
 have hl:k<x.S.length:=by rw[K.len];exact hk
 have ha:=K.d.ar.mod hm (ne _ (by omega)) (ne _ (by omega));refine⟨⟨K.s.kp hkp,⟨ha,K.d.sp.set k hl j hj v s' (by rw[hv,spOf_in hl]),K.d.fg.mod hm (ne _ (by omega)) (ne _ (by omega)) (ne _ (by omega)) (ne _ (by omega)) (ne _ (by omega)),fun n hn=> ?_⟩,by show(x.S.set k s').length=_;rw[List.length_set];exact K.len⟩,hkp⟩;obtain⟨b1,b2,b3⟩:=K.s.cl n hn;exact(K.d.fl n hn).mod hm (ne _ (by omega)) (ne _ (by omega)) (ne _ (by omega)) (ne _ (by omega)) (ne _ (by omega))
theorem CoAt.cells:W.cell? ⟨c.gl,0,none⟩=some (.pointer (some ⟨c.ga,0,none⟩))∧W.cell? ⟨c.gl,1,none⟩=some (.pointer (some ⟨c.gt,0,none⟩))∧W.cell? ⟨c.gl,5,none⟩=some (.int .i64 P.B)∧W.cell? ⟨c.gl,6,none⟩=some (.pointer (some ⟨c.gf,0,none⟩))∧
 W.cell? ⟨c.gl,7,none⟩=some (.slice (some ⟨c.hn,0,none⟩) P.NN c.ch)∧W.cell? ⟨c.gl,8,none⟩=some (.slice (some ⟨c.hs,0,none⟩) P.T P.T):=
 ⟨blk_cell K.s.lk_ 0 (by simp[lkCells]),blk_cell K.s.lk_ 1 (by simp[lkCells]),blk_cell K.s.lk_ 5 (by simp[lkCells]),blk_cell K.s.lk_ 6 (by simp[lkCells]),blk_cell K.s.lk_ 7 (by simp[lkCells]),blk_cell K.s.lk_ 8 (by simp[lkCells])⟩
theorem CoAt.spots {k:Nat}(hk:k<P.T):W.cell? ⟨c.hs,k*4,none⟩=some (.int .i64 (spOf x.S (k:Int)).pc)∧W.cell? ⟨c.hs,k*4+1,none⟩=some (.int .i64 (spOf x.S (k:Int)).a)∧W.cell? ⟨c.hs,k*4+2,none⟩=some (.int .i64 (spOf x.S (k:Int)).b)∧W.cell? ⟨c.hs,k*4+3,none⟩=some (.int .i64 (spOf x.S (k:Int)).c)∧∀j,W.frozen? ⟨c.hs,j,none⟩=false:=by
 have hl:k<x.S.length:=by rw[K.len];exact hk
 rw[spOf_in hl];exact K.d.sp.cells k hl
theorem CoAt.lt:c.gl<W.heap.size∧c.hs<W.heap.size:=⟨lt_of_blk K.s.lk_,K.d.sp.lt⟩
end
end Go.Proofs.YtfmiioddhpkdkaaGreat.Cm
namespace Go.Proofs.YtfmiioddhpkdkaaGreat.Cm
open Go.RowKit Ara Lok Fl Co
section
variable {W:World}{c:Cd}{P:Pm}{x:CS}(K:CoAt W c P x)
include K
theorem threads_co:Calls Tryz.prog 168 #[.pointer (some ⟨c.gl,0,none⟩)] W fun e w'=>e= .returned (.int .i64 (P.T:Int))∧w'=W:=by
 obtain⟨-,-,-,-,-,c8⟩:=K.cells;clear K;go_enter Tryz.func168,Tryz.ntmps168;go_wp2_with fail;go_ret;exact⟨rfl,rfl⟩
theorem has_co (i:Int):Calls Tryz.prog 169 #[.pointer (some ⟨c.gl,0,none⟩),.int .i64 i] W fun e w'=>e= .returned (.bool (decide (0≤i)&&decide (i<(P.T:Int))))∧w'=W:=by
 have HT:=Lib.hid (threads_co K);clear K;by_cases h0:0≤i
 ·by_cases h1:i<(P.T:Int)
  ·have HN:=Lib.hid (show(decide (0≤i)&&decide (i<(P.T:Int)))=true by rw[decide_eq_true h0,decide_eq_true h1];rfl)
   go_enter Tryz.func169,Tryz.ntmps169;go_wp2_with fail;refine(HT.out).mono ?_;rintro e wx ⟨rfl,hwx⟩;obtain rfl:=hwx.symm;go_wp2_with fail;go_ret;exact⟨by rw[HN.out];rfl,rfl⟩
  ·have HN:=Lib.hid (show(decide (0≤i)&&decide (i<(P.T:Int)))=false by rw[decide_eq_false h1,Bool.and_false])
   have q1:=decide_eq_false h1;go_enter Tryz.func169,Tryz.ntmps169;go_wp2_with fail;refine(HT.out).mono ?_;rintro e wx ⟨rfl,hwx⟩;obtain rfl:=hwx.symm;go_wp2_with fail;go_ret;exact⟨by rw[HN.out];rfl,rfl⟩
 ·have HN:=Lib.hid (show(decide (0≤i)&&decide (i<(P.T:Int)))=false by rw[decide_eq_false h0,Bool.false_and])
  go_enter Tryz.func169,Tryz.ntmps169;go_wp2_with fail;go_ret;exact⟨by rw[HN.out];rfl,rfl⟩
theorem has_in (k:Nat)(hk:k<P.T):Calls Tryz.prog 169 #[.pointer (some ⟨c.gl,0,none⟩),.int .i64 (k:Int)] W fun e w'=>e= .returned (.bool true)∧w'=W:=by
 have:=has_co K (k:Int);rw[decide_eq_true (by omega),decide_eq_true (by omega)]at this;exact this
theorem has_out (i:Int)(hi:i<0∨(P.T:Int)≤i):Calls Tryz.prog 169 #[.pointer (some ⟨c.gl,0,none⟩),.int .i64 i] W fun e w'=>e= .returned (.bool false)∧w'=W:=by
 have:=has_co K i
 rw[show(decide (0≤i)&&decide (i<(P.T:Int)))=false by
  rcases hi with h|h
  ·rw[decide_eq_false (by omega),Bool.false_and]
  ·rw[decide_eq_false (show¬i<(P.T:Int) by omega),Bool.and_false]]at this
 exact this
theorem CoAt.out {i:Int}(hi:i<0∨(P.T:Int)≤i):spOf x.S i=sp0:=spOf_out (by have:=K.len;omega)
theorem spot_co (i:Int):Calls Tryz.prog 166 #[.pointer (some ⟨c.gl,0,none⟩),.int .i64 i] W fun e w'=>e= .returned (.agg #[.int .i64 (spOf x.S i).pc,.int .i64 (spOf x.S i).a,.int .i64 (spOf x.S i).b,.int .i64 (spOf x.S i).c])∧Below W.heap.size W w':=by
 have HK:=Lib.hid (K.same (below_new W (.cells #[.int .i64 0,.int .i64 0,.int .i64 0,.int .i64 0] 134)));by_cases hi:i<0∨(P.T:Int)≤i
 ·rw[K.out hi]
  have HS:=Lib.hid (has_out HK.out i hi);clear K hi;go_enter Tryz.func166,Tryz.ntmps166;go_wp2_with fail;refine(HS.out).mono ?_;rintro e wx ⟨rfl,hwx⟩;obtain rfl:=hwx.symm;go_wp2_with fail;exact bodyPost_ret (v:= .agg #[.int .i64 0,.int .i64 0,.int .i64 0,.int .i64 0]) (by simp[results,Tryz.results166,go_sem]) rfl ⟨rfl,by first|exact(Below.refl _ _).alloc (Nat.le_refl _) _|exact(((((Below.refl _ _).alloc (Nat.le_refl _) _).setCell (Nat.le_refl _) _).setCell (Nat.le_refl _) _).setCell (Nat.le_refl _) _).setCell (Nat.le_refl _) _⟩
 ·obtain⟨k,rfl⟩:=Int.eq_ofNat_of_zero_le (show 0≤i by omega)
  have hk:k<P.T:=by omega
  have i1:(k:Int)<(P.T:Int):=by omega
  have HS:=Lib.hid (has_in HK.out k hk);obtain⟨c0,c1,c2,c3,-⟩:=HK.out.spots hk;obtain⟨-,-,-,-,-,c8⟩:=HK.out.cells;obtain⟨l1,l2⟩:=K.lt;clear K hi;generalize spOf x.S (k:Int)=s at*;obtain⟨xp,xa,xb,xc⟩:=s;simp only at c0 c1 c2 c3⊢;go_enter Tryz.func166,Tryz.ntmps166;go_wp2_with fail;refine(HS.out).mono ?_;rintro e wx ⟨rfl,hwx⟩;obtain rfl:=hwx.symm;go_wp2_with fail;exact bodyPost_ret (v:= .agg #[.int .i64 xp,.int .i64 xa,.int .i64 xb,.int .i64 xc]) (by simp[results,Tryz.results166,go_sem]) rfl ⟨rfl,by first|exact(Below.refl _ _).alloc (Nat.le_refl _) _|exact(((((Below.refl _ _).alloc (Nat.le_refl _) _).setCell (Nat.le_refl _) _).setCell (Nat.le_refl _) _).setCell (Nat.le_refl _) _).setCell (Nat.le_refl _) _⟩
end
end Go.Proofs.YtfmiioddhpkdkaaGreat.Cm
namespace Go.Proofs.YtfmiioddhpkdkaaGreat.Cm
open Go.RowKit Ara Lok Fl Co
def cntV (s:Sp):Int:=if s.pc=10 then s.a else 0
section
variable {W:World}{c:Cd}{P:Pm}{x:CS}(K:CoAt W c P x)
include K
theorem of_co (D:Dj P)(k:Nat)(hk:k<P.T):Calls Tryz.prog 170 #[.pointer (some ⟨c.gl,0,none⟩),.int .i64 (k:Int)] W fun e w'=>e= .returned (.tuple #[.agg #[.pointer (some ⟨c.lf (P.nd k),0,none⟩),.int .i64 (P.cw (P.nd k))],.int .i64 (P.nd k:Int),.int .i64 (P.sl k:Int)])∧Below W.heap.size W w':=by
 have hnd:=(D.nd k hk).1;have hlt:=K.lt.1;have s5:=K.s.sz;go_enter Tryz.func170,Tryz.ntmps170;go_upto_region 1 with fail;have hb0:=below_new W (.cells #[.pointer none,.int .i64 0] 179);have hB0:=blk_new W (.cells #[.pointer none,.int .i64 0] 179);generalize W.alloc (.cells #[.pointer none,.int .i64 0] 179)=W1 at*;have HK1:=Lib.hid (K.same hb0);have HB1:=Lib.hid hb0;have HX1:=Lib.hid hB0;have hsz1:=hb0.size;have hN:=Pa.node_in HK1.out.s.t2 c.tA P.T c.tc k c.gn c.cn _ hk HK1.out.s.t1 HK1.out.s.t6 (HK1.out.s.rn k hk);have HN:=Lib.hid hN;obtain⟨-,c1,-,-,c7,-⟩:=HK1.out.cells;clear K hb0 hB0 hN;go_upto_region 2 with(go_at_call 89;refine HN.out.mono ?_;rintro e wx ⟨rfl,hwx⟩;obtain rfl:=hwx.symm);clear c1 c7 HN;have hKd:CoAt W1.drew c P x:=HK1.out.same (Below.drew (Below.refl _ _));have HKd:=Lib.hid hKd;have hBd:W1.drew.heap[W.heap.size]? =some (.cells #[.pointer none,.int .i64 0] 179 (0,0)):=HX1.out;have hbd:Below W.heap.size W W1.drew:=Below.drew HB1.out;obtain⟨-,c1,-,-,c7,-⟩:=hKd.cells;obtain⟨n0,n1⟩:=hKd.s.nr _ hnd;have SW0:W1.drew.cell? ⟨c.gl,1,none⟩=some (.pointer (some ⟨c.gt,0,none⟩))∧W1.drew.cell? ⟨c.gl,7,none⟩=some (.slice (some ⟨c.hn,0,none⟩) P.NN c.ch)∧W1.drew.cell? ⟨c.hn,P.nd k*2,none⟩=some (.pointer (some ⟨c.lf (P.nd k),0,none⟩))∧W1.drew.cell? ⟨c.hn,P.nd k*2+1,none⟩=some (.int .i64 (P.cw (P.nd k))):=⟨c1,c7,n0,n1⟩;refine wp_region_held_drew (S:=fun V=>V.cell? ⟨c.gl,1,none⟩=some (.pointer (some ⟨c.gt,0,none⟩))∧V.cell? ⟨c.gl,7,none⟩=some (.slice (some ⟨c.hn,0,none⟩) P.NN c.ch)∧V.cell? ⟨c.hn,P.nd k*2,none⟩=some (.pointer (some ⟨c.lf (P.nd k),0,none⟩))∧V.cell? ⟨c.hn,P.nd k*2+1,none⟩=some (.int .i64 (P.cw (P.nd k)))) (by kernel_rfl) SW0 (fun hHeld=> ?_);have hsl:=Pa.slot_in hKd.s.t2 c.tA P.T c.tc k c.gs c.cs _ hk hKd.s.t1 hKd.s.t7 (hKd.s.rs k hk);have HSL:=Lib.hid hsl;clear c1 c7 n0 n1 hKd HK1 HB1 HX1 hsl;generalize W1.drew=X0 at*;generalize hn9:P.nd k=n at*;generalize hs9:P.sl k=sl at*;have HN9:=Lib.hid hn9;have HS9:=Lib.hid hs9;clear hn9 hs9;refine take_to 0 (some 14) (v:= ?_) rfl rfl (by kernel_rfl) (by kernel_rfl) (by kernel_rfl) (fun _ _ _ h=>h) (Or.inl ⟨by rfl,?_⟩) (by first|trivial|assumption) ?_;rotate_left;focus(intro w hSw;(try dsimp only at hSw);go_simp;(try with_reducible rfl))
 simp only[Act.put,List.setIfInBounds_toArray,List.set_cons_zero,List.set_cons_succ];refine take_to 1 (some 15) (v:= ?_) rfl rfl (by kernel_rfl) (by kernel_rfl) (by kernel_rfl) (fun _ _ _ h=>h) (Or.inl ⟨by rfl,?_⟩) (by first|trivial|assumption) ?_;rotate_left;focus(intro w hSw;(try dsimp only at hSw);go_simp;(try with_reducible rfl))
 simp only[Act.put,List.setIfInBounds_toArray,List.set_cons_zero,List.set_cons_succ];refine take_to 2 (some 16) (v:= ?_) rfl rfl (by kernel_rfl) (by kernel_rfl) (by kernel_rfl) (fun _ _ _ h=>h) (Or.inl ⟨by rfl,?_⟩) (by first|trivial|assumption) ?_;rotate_left;focus(intro w hSw;(try dsimp only at hSw);go_simp;(try with_reducible rfl))
 simp only[Act.put,List.setIfInBounds_toArray,List.set_cons_zero,List.set_cons_succ];refine take_to 3 (some 17) (v:= ?_) rfl rfl (by kernel_rfl) (by kernel_rfl) (by kernel_rfl) (fun _ _ _ h=>h) (Or.inl ⟨by rfl,?_⟩) (by first|trivial|assumption) ?_;rotate_left;focus(intro w hSw;(try dsimp only at hSw);go_simp;(try with_reducible rfl))
 simp only[Act.put,List.setIfInBounds_toArray,List.set_cons_zero,List.set_cons_succ];refine take_to 4 (some 18) (v:= ?_) rfl rfl (by kernel_rfl) (by kernel_rfl) (by kernel_rfl) (fun _ _ _ h=>h) (Or.inl ⟨by rfl,?_⟩) (by first|trivial|assumption) ?_;rotate_left;focus(intro w hSw;(try dsimp only at hSw);go_simp;(try with_reducible rfl))
 simp only[Act.put,List.setIfInBounds_toArray,List.set_cons_zero,List.set_cons_succ];refine take_to 5 (some 19) (v:= ?_) rfl rfl (by kernel_rfl) (by kernel_rfl) (by kernel_rfl) (fun _ _ _ h=>h) (Or.inl ⟨by rfl,?_⟩) (by first|trivial|assumption) ?_;rotate_left;focus(intro w hSw;(try dsimp only at hSw);go_simp;(try with_reducible rfl))
 simp only[Act.put,List.setIfInBounds_toArray,List.set_cons_zero,List.set_cons_succ];refine take_to 6 (some 20) (v:= ?_) rfl rfl (by kernel_rfl) (by kernel_rfl) (by kernel_rfl) (fun _ _ _ h=>h) (Or.inl ⟨by rfl,?_⟩) (by first|trivial|assumption) ?_;rotate_left;focus(intro w hSw;(try dsimp only at hSw);go_simp;(try with_reducible rfl))
 simp only[Act.put,List.setIfInBounds_toArray,List.set_cons_zero,List.set_cons_succ];refine take_to 7 (some 21) (v:= ?_) rfl rfl (by kernel_rfl) (by kernel_rfl) (by kernel_rfl) (fun _ _ _ h=>h) (Or.inl ⟨by rfl,?_⟩) (by first|trivial|assumption) ?_;rotate_left;focus(intro w hSw;(try dsimp only at hSw);go_simp;(try with_reducible rfl))
 simp only[Act.put,List.setIfInBounds_toArray,List.set_cons_zero,List.set_cons_succ];refine take_to 8 (some 22) (v:= ?_) rfl rfl (by kernel_rfl) (by kernel_rfl) (by kernel_rfl) (fun _ _ _ h=>h) (Or.inl ⟨by rfl,?_⟩) (by first|trivial|assumption) ?_;rotate_left;focus(intro w hSw;(try dsimp only at hSw);go_simp;(try with_reducible rfl))
 simp only[Act.put,List.setIfInBounds_toArray,List.set_cons_zero,List.set_cons_succ];refine take_to 9 (some 23) (v:= ?_) rfl rfl (by kernel_rfl) (by kernel_rfl) (by kernel_rfl) (fun _ _ _ h=>h) (Or.inl ⟨by rfl,?_⟩) (by first|trivial|assumption) ?_;rotate_left;focus(intro w hSw;(try dsimp only at hSw);go_simp;(try with_reducible rfl))
 simp only[Act.put,List.setIfInBounds_toArray,List.set_cons_zero,List.set_cons_succ];refine take_to 10 (some 24) (v:= ?_) rfl rfl (by kernel_rfl) (by kernel_rfl) (by kernel_rfl) (fun _ _ _ h=>h) (Or.inl ⟨by rfl,?_⟩) (by first|trivial|assumption) ?_;rotate_left;focus(intro w hSw;(try dsimp only at hSw);go_simp;(try with_reducible rfl))
 simp only[Act.put,List.setIfInBounds_toArray,List.set_cons_zero,List.set_cons_succ];refine take_to 11 (some 25) (v:= ?_) rfl rfl (by kernel_rfl) (by kernel_rfl) (by kernel_rfl) (fun _ _ _ h=>h) (Or.inl ⟨by rfl,?_⟩) (by first|trivial|assumption) ?_;rotate_left;focus(intro w hSw;(try dsimp only at hSw);go_simp;(try with_reducible rfl))
 simp only[Act.put,List.setIfInBounds_toArray,List.set_cons_zero,List.set_cons_succ];refine take_to 12 (some 26) (v:= ?_) rfl rfl (by kernel_rfl) (by kernel_rfl) (by kernel_rfl) (fun _ _ _ h=>h) (Or.inl ⟨by rfl,?_⟩) (by first|trivial|assumption) ?_;rotate_left;focus(intro w hSw;(try dsimp only at hSw);go_simp;(try with_reducible rfl))
 simp only[Act.put,List.setIfInBounds_toArray,List.set_cons_zero,List.set_cons_succ];refine wpAnyH_ready (rs:=[13]) (by kernel_rfl) (by simp) ?_;refine AllReadyH.cons rfl (fun K hK=> ?_) AllReadyH.nil;go_simp;refine HSL.out.mono ?_;rintro e w2 ⟨rfl,hw2⟩;obtain rfl:=hw2.symm;go_simp;refine hK.out _ _ SW0 (fun hHeld=> ?_);have b0:=blk_cell hBd 0 (by simp);have b1:=blk_cell hBd 1 (by simp);have f0:=blk_free hBd 0;have f1:=blk_free hBd 1;have B1:=blk_set hBd 0 (.pointer (some ⟨c.lf n,0,none⟩));have B2:=blk_set B1 1 (.int .i64 (P.cw n));have r0:=blk_cell B2 0 (by simp);have r1:=blk_cell B2 1 (by simp);simp at r0 r1 b0 b1;clear B1 B2;have HBd:=Lib.hid hbd;have HBn:=Lib.hid hBd;clear hBd hbd;have hm:Mod [W.heap.size] X0 ((X0.setCell ⟨W.heap.size,0,none⟩ (.pointer (some ⟨c.lf n,0,none⟩))).setCell ⟨W.heap.size,1,none⟩ (.int .i64 (P.cw n))):=((Mod.refl _ _).setCell (by simp) _).setCell (by simp) _
 have SW1:((X0.setCell ⟨W.heap.size,0,none⟩ (.pointer (some ⟨c.lf n,0,none⟩))).setCell ⟨W.heap.size,1,none⟩ (.int .i64 (P.cw n))).cell? ⟨c.gl,1,none⟩=some (.pointer (some ⟨c.gt,0,none⟩))∧((X0.setCell ⟨W.heap.size,0,none⟩ (.pointer (some ⟨c.lf n,0,none⟩))).setCell ⟨W.heap.size,1,none⟩ (.int .i64 (P.cw n))).cell? ⟨c.gl,7,none⟩=some (.slice (some ⟨c.hn,0,none⟩) P.NN c.ch)∧((X0.setCell ⟨W.heap.size,0,none⟩ (.pointer (some ⟨c.lf n,0,none⟩))).setCell ⟨W.heap.size,1,none⟩ (.int .i64 (P.cw n))).cell? ⟨c.hn,n*2,none⟩=some (.pointer (some ⟨c.lf n,0,none⟩))∧((X0.setCell ⟨W.heap.size,0,none⟩ (.pointer (some ⟨c.lf n,0,none⟩))).setCell ⟨W.heap.size,1,none⟩ (.int .i64 (P.cw n))).cell? ⟨c.hn,n*2+1,none⟩=some (.int .i64 (P.cw n)):=by
  have hs0:=HBd.out.size;exact⟨(Pa.cell_mod hm (p:=⟨c.gl,1,none⟩) (by show c.gl<_;omega) (by simp;omega)).trans SW0.1,(Pa.cell_mod hm (p:=⟨c.gl,7,none⟩) (by show c.gl<_;omega) (by simp;omega)).trans SW0.2.1,(Pa.cell_mod hm (p:=⟨c.hn,n*2,none⟩) (by show c.hn<_;omega) (by simp;omega)).trans SW0.2.2.1,(Pa.cell_mod hm (p:=⟨c.hn,n*2+1,none⟩) (by show c.hn<_;omega) (by simp;omega)).trans SW0.2.2.2⟩
 have HF:=Lib.hid (show Below W.heap.size W ((X0.setCell ⟨W.heap.size,0,none⟩ (.pointer (some ⟨c.lf n,0,none⟩))).setCell ⟨W.heap.size,1,none⟩ (.int .i64 (P.cw n))) from(HBd.out.setCell (p:=⟨W.heap.size,0,none⟩) (Nat.le_refl _) _).setCell (p:=⟨W.heap.size,1,none⟩) (Nat.le_refl _) _);clear hm;refine wpAnyH_ready (rs:=[14]) (by kernel_rfl) (by simp) ?_;refine AllReadyH.cons rfl (fun K hK=> ?_) AllReadyH.nil;go_simp;refine hK.out _ _ SW1 (fun hHeld=> ?_);refine take_to 15 (some 5) (v:= ?_) rfl rfl (by kernel_rfl) (by kernel_rfl) (by kernel_rfl) (fun _ _ _ h=>h) (Or.inl ⟨by rfl,?_⟩) (by first|trivial|assumption) ?_;rotate_left;focus(intro w hSw;(try dsimp only at hSw);go_simp;(try with_reducible rfl))
 simp only[Act.put,List.setIfInBounds_toArray,List.set_cons_zero,List.set_cons_succ];refine take_to 16 (some 6) (v:= ?_) rfl rfl (by kernel_rfl) (by kernel_rfl) (by kernel_rfl) (fun _ _ _ h=>h) (Or.inl ⟨by rfl,?_⟩) (by first|trivial|assumption) ?_;rotate_left;focus(intro w hSw;(try dsimp only at hSw);go_simp;(try with_reducible rfl))
 simp only[Act.put,List.setIfInBounds_toArray,List.set_cons_zero,List.set_cons_succ];refine wpAnyH_done (by kernel_rfl) ?_ _;go_wp2_with fail
 (try simp only[Exit.inBlock,Exit.then])
 exact bodyPost_ret (v:= .tuple #[.agg #[.pointer (some ⟨c.lf n,0,none⟩),.int .i64 (P.cw n)],.int .i64 (n:Int),.int .i64 (sl:Int)]) (by simp[results,Tryz.results170,go_sem,r0,r1]) rfl ⟨by rw[HN9.out,HS9.out],HF.out⟩
theorem count_co (i:Int):Calls Tryz.prog 164 #[.pointer (some ⟨c.gl,0,none⟩),.int .i64 i] W fun e w'=>e= .returned (.int .i64 (cntV (spOf x.S i)))∧Below W.heap.size W w':=by
 have HS:=Lib.hid (spot_co K i);clear K;generalize spOf x.S i=s at*;obtain⟨xp,xa,xb,xc⟩:=s;simp only at HS⊢;by_cases h:xp=10
 ·have HN:=Lib.hid (show cntV ⟨xp,xa,xb,xc⟩=xa from if_pos h)
  have q:=ibne_no h;go_enter Tryz.func164,Tryz.ntmps164;go_wp2_with fail;refine HS.out.mono ?_;rintro e w2 ⟨rfl,hb⟩;have HB:=Lib.hid hb;clear hb;go_wp2_with fail;go_ret;exact⟨by rw[HN.out];rfl,HB.out.alloc HB.out.size _⟩
 ·have HN:=Lib.hid (show cntV ⟨xp,xa,xb,xc⟩=0 from if_neg h)
  have q:=ibne h;go_enter Tryz.func164,Tryz.ntmps164;go_wp2_with fail;refine HS.out.mono ?_;rintro e w2 ⟨rfl,hb⟩;have HB:=Lib.hid hb;clear hb;go_wp2_with fail;go_ret;exact⟨by rw[HN.out];rfl,HB.out.alloc HB.out.size _⟩
end
end Go.Proofs.YtfmiioddhpkdkaaGreat.Cm
