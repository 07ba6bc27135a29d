/- Merged texts: Tp3, Tp4, Reg, Tp5, Tp8. -/
import Derived.Test.YtfmiioddhpkdkaaGreatWz1
import Derived.Deep.Cut
import Derived.Deep.CutBlock
import Derived.Deep.RegionHeld3
import Derived.RegionTactic
import Derived.Tactics2
set_option linter.unusedVariables false
set_option maxRecDepth 100000
set_option maxHeartbeats 8000000
namespace Go.Proofs.YtfmiioddhpkdkaaGreat.Tp
open Go.RowKit Li De Ara
theorem chk1_any (E:List Int)(g b off c:Nat)(x:Int)(w:World)(hm:E.length≤1000)(hg:w.cell? ⟨g,0,none⟩=some (.slice (some ⟨b,off,none⟩) E.length c))
 (hc:∀j,j<E.length→w.cell? ⟨b,off+j,none⟩=some (.int .i64 (E.getD j 0))):
 Calls Tryz.prog 67 #[.int .i64 x,.pointer (some ⟨g,0,none⟩)] w fun e w'=>e= .returned (.bool (!decide (x∈E)))∧w'=w:=by
 have hC:=cont_any b off E c x w hm hc;have HC:=Lib.hid hC;clear hC hc;generalize decide (x∈E)=r at*;go_enter Tryz.func67,Tryz.ntmps67;go_wp2_with fail;refine(HC.out).mono ?_;rintro e wx ⟨rfl,hwx⟩;obtain rfl:=hwx.symm;go_wp2_with fail;go_ret;exact⟨rfl,rfl⟩
def anyF (f:Int→Bool)(t:List Int):Bool:=t.any f
theorem any_yes {f:Int→Bool}{t:List Int}{j:Nat}(hj:j<t.length)(h:f (t.getD j 0)=true):anyF f t=true:=List.any_eq_true.2 ⟨_,getD_mem hj,h⟩
theorem any_no {f:Int→Bool}{t:List Int}(h:∀v,v<t.length→f (t.getD v 0)=false):anyF f t=false:=by
 unfold anyF;rw[List.any_eq_false];intro x hx;obtain⟨v,hv,e⟩:=mem_getD hx;rw[←e,h v hv];simp
def nin (E:List Int)(x:Int):Bool:= !decide (x∈E)
theorem ixC_any (E t:List Int)(A:Option Addr)(cap g b off c:Nat)(w:World)(hm:E.length≤1000)(htl:t.length≤1000)(hs:Sl w w.heap.size A (t.flatMap decI))(hg:w.cell? ⟨g,0,none⟩=some (.slice (some ⟨b,off,none⟩) E.length c))
 (hc:∀j,j<E.length→w.cell? ⟨b,off+j,none⟩=some (.int .i64 (E.getD j 0))):
 Calls Tryz.prog 77 #[.slice A t.length cap,.func (.func 67) #[] #[.pointer (some ⟨g,0,none⟩)]] w fun e w'=>(∃i:Int,e= .returned (.int .i64 i)∧decide (0≤i)=anyF (nin E) t)∧w'=w:=by
 have HCL:=Lib.hid (fun x=>chk1_any E g b off c x w hm hg hc);obtain⟨f,hf0⟩:∃f,nin E=f:=⟨_,rfl⟩;have HCL:Hid (∀x,Calls Tryz.prog 67 #[.int .i64 x,.pointer (some ⟨g,0,none⟩)] w fun e w'=>e= .returned (.bool (f x))∧w'=w):=Lib.hid (fun x=>by rw[←hf0];exact HCL.out x);rw[hf0];clear hf0 hg hc;have HT:=Lib.hid (fun j (hj:j<t.length) (h:f (t.getD j 0)=true)=>any_yes hj h);have HF:=Lib.hid (fun h:∀v,v<t.length→f (t.getD v 0)=false=>any_no h);go_enter Tryz.func77,Tryz.ntmps77;go_wp2_with fail;go_loopw [8] (fun i wr=>∃j:Nat,j≤t.length∧i= .int .i64 (j:Int)∧(∀v,v<j→f (t.getD v 0)=false)∧wr=w) (fun i _=>t.length-(intOf i).toNat)
 case atStart=>exact⟨0,Nat.zero_le _,rfl,fun v hv=>absurd hv (Nat.not_lt_zero v),rfl⟩
 case round=>
  obtain⟨j,hj,rfl,hgood,rfl⟩:=hrel;by_cases hlt:j<t.length
  ·obtain⟨b',off',rfl,hbb,hcell⟩:=sl_g hs (by omega)
   have h0:=hcell j hlt;have i1:(j:Int)<(t.length:Int):=by omega
   have HY:=Lib.hid (HT.out j hlt)
   have HGOOD:=Lib.hid (show f (t.getD j 0)=false→∀v,v<j+1→f (t.getD v 0)=false from fun h v hv=>by
    by_cases e:v=j
    ·subst e;exact h
    ·exact hgood v (by omega))
   have hC:=HCL.out (t.getD j 0);clear hcell HT HF hgood hs HCL;generalize t.getD j 0=y at*;cases hf:f y with
   |true=>
    rw[hf]at hC;have HC:=Lib.hid hC;have HN:=Lib.hid (HY.out hf);clear hf hC HY HGOOD;go_wp2_with fail;refine(HC.out).mono ?_;rintro e wx ⟨rfl,hwx⟩;obtain rfl:=hwx.symm;go_wp2_with fail;go_ret;exact⟨⟨(j:Int),rfl,by rw[HN.out];exact decide_eq_true (by omega)⟩,rfl⟩
   |false=>
    rw[hf]at hC;have HC:=Lib.hid hC;have HN:=Lib.hid (HGOOD.out hf);clear hf hC HY HGOOD;go_wp2_with fail;refine(HC.out).mono ?_;rintro e wx ⟨rfl,hwx⟩;obtain rfl:=hwx.symm;go_wp2_with fail;go_roundw
    case rel=>exact⟨j+1,by omega,by go_num,HN.out,trivial⟩
    case measure=>simp[intOf];omega
  ·obtain rfl:j=t.length:=by omega
   have HN:=Lib.hid (HF.out hgood);have i1:¬(t.length:Int)<(t.length:Int):=by omega
   clear HT HF hgood hs HCL;go_wp2_with fail;go_ret;exact⟨⟨-1,rfl,by rw[HN.out];rfl⟩,rfl⟩
theorem cfC_any (E t:List Int)(A:Option Addr)(cap g b off c:Nat)(w:World)(hm:E.length≤1000)(htl:t.length≤1000)(hs:Sl w w.heap.size A (t.flatMap decI))(hg:w.cell? ⟨g,0,none⟩=some (.slice (some ⟨b,off,none⟩) E.length c))
 (hc:∀j,j<E.length→w.cell? ⟨b,off+j,none⟩=some (.int .i64 (E.getD j 0))):
 Calls Tryz.prog 66 #[.slice A t.length cap,.func (.func 67) #[] #[.pointer (some ⟨g,0,none⟩)]] w fun e w'=>e= .returned (.bool (anyF (nin E) t))∧w'=w:=by
 have HI:=Lib.hid (ixC_any E t A cap g b off c w hm htl hs hg hc);clear hs;go_enter Tryz.func66,Tryz.ntmps66;go_wp2_with fail;refine HI.out.mono ?_;rintro e wx ⟨⟨i,rfl,hi⟩,hwx⟩;obtain rfl:=hwx.symm;by_cases h:0≤i
 ·have HN:=Lib.hid (decide_eq_true h)
  go_wp2_with fail;go_ret;exact⟨by rw[←hi,HN.out];rfl,rfl⟩
 ·have HN:=Lib.hid (decide_eq_false h)
  go_wp2_with fail;go_ret;exact⟨by rw[←hi,HN.out];rfl,rfl⟩
def Bx (w W:World)(x y:Value):Prop:=Below w.heap.size w W∧w.heap.size<W.heap.size∧W.cell? ⟨w.heap.size,0,none⟩=some x∧W.cell? ⟨w.heap.size,1,none⟩=some y
theorem Bx.made (w:World)(x y:Value)(T:TypeId):Bx w (w.alloc (.cells #[x,y] T)) x y:=
 ⟨below_new _ _,by simp,blk_cell (blk_new w (.cells #[x,y] T)) 0 (by simp),blk_cell (blk_new w (.cells #[x,y] T)) 1 (by simp)⟩
theorem Bx.drewN {w W:World}{x y:Value}(h:Bx w W x y)(q:Nat):Bx w (W.drewN q) x y:=⟨below_drewN h.1 q,h.2⟩
theorem Bx.step {w W V:World}{x y:Value}(h:Bx w W x y)(b:Below W.heap.size W V):Bx w V x y:=
 ⟨nx h.1 b,Nat.lt_of_lt_of_le h.2.1 b.size,(b.cell (p:=⟨w.heap.size,0,none⟩) h.2.1).trans h.2.2.1,(b.cell (p:=⟨w.heap.size,1,none⟩) h.2.1).trans h.2.2.2⟩
theorem Bx.sl {w W:World}{x y:Value}(h:Bx w W x y){A:Option Addr}{xs:List Value}(hs:Sl w w.heap.size A xs):Sl W W.heap.size A xs:=(hs.below h.1).more h.1.size
end Go.Proofs.YtfmiioddhpkdkaaGreat.Tp
namespace Go.Proofs.YtfmiioddhpkdkaaGreat.Tp
open Go.RowKit Li De Ara
theorem frame98 {a:Act}(h:a.tmps.size=98)(hd:a.defers=[]):∃u:Nat→Value,a={tmps:= #[u 0,u 1,u 2,u 3,u 4,u 5,u 6,u 7,u 8,u 9,u 10,u 11,u 12,u 13,u 14,u 15,u 16,u 17,u 18,u 19,u 20,u 21,u 22,u 23,u 24,u 25,u 26,u 27,u 28,u 29,u 30,u 31,u 32,u 33,u 34,u 35,u 36,u 37,u 38,u 39,u 40,u 41,u 42,u 43,u 44,u 45,u 46,u 47,u 48,u 49,u 50,u 51,u 52,u 53,u 54,u 55,u 56,u 57,u 58,u 59,u 60,u 61,u 62,u 63,u 64,u 65,u 66,u 67,u 68,u 69,u 70,u 71,u 72,u 73,u 74,u 75,u 76,u 77,u 78,u 79,u 80,u 81,u 82,u 83,u 84,u 85,u 86,u 87,u 88,u 89,u 90,u 91,u 92,u 93,u 94,u 95,u 96,u 97],defers:=[]}∧∀n,a.tmps.getD n undef=u n:=by
 refine⟨fun n=>a.tmps.getD n undef,?_,fun _=>rfl⟩;have h1:=arr_lit a.tmps h;cases a with
 |mk t d=>
  simp only at hd h1;subst hd;congr 1
def RcJ1 (p:List Int)(w W0:World)(a:Act)(W:World):Prop:=
 a.tmps.size=98∧a.defers=[]∧a.tmps.getD 1 undef= .pointer (some ⟨w.heap.size,0,none⟩)∧W=W0∧∃j:Nat,a.tmps.getD 3 undef= .int .i64 (j:Int)∧1≤j∧j≤p.length∧(∀v,v<j→okV p v)
def FirstL (p:List Int)(j F:Nat):Prop:=(F=0∧lvK p j=[])∨(1≤F∧∃a r,lvK p j=a::r∧F=dep p a∧∀v∈lvK p j,dep p v=dep p a∧dep p v≤5)
def RcJ2 (p:List Int)(w W0:World)(a:Act)(W:World):Prop:=
 a.tmps.size=98∧a.defers=[]∧a.tmps.getD 1 undef= .pointer (some ⟨w.heap.size,0,none⟩)∧W=W0∧∃j F:Nat,a.tmps.getD 4 undef= .int .i64 (F:Int)∧a.tmps.getD 5 undef= .int .i64 (j:Int)∧j≤p.length∧F≤p.length∧FirstL p j F
def RcJ3 (p t:List Int)(w W0:World)(a:Act)(W:World):Prop:=
 a.tmps.size=98∧a.defers=[]∧a.tmps.getD 1 undef= .pointer (some ⟨w.heap.size,0,none⟩)∧∃q,W=W0.drewN q∧∃j:Nat,a.tmps.getD 7 undef= .int .i64 (j:Int)∧j≤t.length∧(∀v,v<j→leafP p (t.getD v 0))
theorem lvK_sub {p:List Int}{j:Nat}(hj:j≤p.length){v:Int}(h:v∈lvK p j):v∈lvs p:=by
 rw[mem_lvK]at h;exact mem_lvK.2 ⟨h.1,by omega,h.2.2⟩
theorem first_no {p:List Int}{j F:Nat}(h:FirstL p j F)(hin:(j:Int)∈p):FirstL p (j+1) F:=by
 unfold FirstL at*;rw[lvK_succ,if_pos hin];exact h
theorem first_new {p:List Int}{j:Nat}(hj:j<p.length)(h:FirstL p j 0)(hin:¬(j:Int)∈p)(h5:dep p (j:Int)≤5):FirstL p (j+1) (dep p (j:Int)):=by
 unfold FirstL at*;rw[lvK_succ,if_neg hin];rcases h with⟨_,h⟩|⟨h,_⟩
 ·right
  rw[h]
  exact⟨dep_pos hj,(j:Int),[],rfl,rfl,fun v hv=>by
   rw[List.nil_append,List.mem_singleton]at hv;rw[hv];exact⟨rfl,h5⟩⟩
 ·omega
theorem first_old {p:List Int}{j F:Nat}(h:FirstL p j F)(hF:F≠0)(hin:¬(j:Int)∈p)(he:dep p (j:Int)=F)(h5:F≤5):FirstL p (j+1) F:=by
 unfold FirstL at*;rw[lvK_succ,if_neg hin];rcases h with⟨h,_⟩|⟨h1,a,r,h2,h3,h4⟩
 ·exact absurd h hF
 ·right
  refine⟨h1,a,r++ [(j:Int)],by rw[h2];rfl,h3,fun v hv=> ?_⟩;rcases List.mem_append.1 hv with hv|hv
  ·exact h4 v hv
  ·rw[List.mem_singleton]at hv
   subst hv;omega
theorem first_deep {p:List Int}{j:Nat}(hj:j<p.length)(hin:¬(j:Int)∈p)(h5:5<dep p (j:Int)):¬flatP p:=by
 intro hf;have hm:(j:Int)∈lvs p:=mem_lvs.2 ⟨by omega,by omega,hin⟩;have:=(hf _ hm _ hm).2;omega
theorem first_bad {p:List Int}{j F:Nat}(hj:j<p.length)(h:FirstL p j F)(hF:F≠0)(hin:¬(j:Int)∈p)(he:dep p (j:Int)≠F):¬flatP p:=by
 intro hf;have hm:(j:Int)∈lvs p:=mem_lvs.2 ⟨by omega,by omega,hin⟩;unfold FirstL at h;rcases h with⟨h,_⟩|⟨h1,a,r,h2,h3,h4⟩
 ·exact hF h
 ·have ha:a∈lvs p:=lvK_sub (Nat.le_of_lt hj) (by rw[h2];simp)
  have:=(hf _ hm _ ha).1;omega
theorem first_end {p:List Int}{F:Nat}(h:FirstL p p.length F):flatP p:=by
 unfold FirstL at h;rcases h with⟨_,h⟩|⟨h1,a,r,h2,h3,h4⟩
 ·intro v hv
  unfold lvs at hv;rw[h]at hv;cases hv
 ·exact(flat_head h2).2 h4
theorem rcheck_any (p t:List Int)(A B:Option Addr)(c d:Nat)(w:World)(hp:p.length≤100000)(htl:t.length≤100000)(hs:Sl w w.heap.size A (p.flatMap decI))(ht:Sl w w.heap.size B (t.flatMap decI)):
 Calls Tryz.prog 19 #[(.agg #[.slice A p.length c,.slice B t.length d])] w fun e w'=>e= .returned (.int .i64 (chk p t))∧Below w.heap.size w w':=by
 by_cases k1:p.length<1
 ·have i1:(p.length:Int)<1:=by omega
  have HN:=Lib.hid (chk_many (p:=p) (t:=t) (.inl k1));go_enter Tryz.func19,Tryz.ntmps19;go_upto_region 1 with fail;have HX:=Lib.hid (Bx.made w (.slice A p.length c) (.slice B t.length d) 24);generalize w.alloc (.cells #[.slice A p.length c,.slice B t.length d] 24)=W0 at*;have c0:=HX.out.2.2.1;have c1:=HX.out.2.2.2;have SP:=Lib.hid (HX.out.sl hs);have ST:=Lib.hid (HX.out.sl ht);go_wp2_with fail;go_ret;exact⟨by rw[HN.out];rfl,HX.out.1⟩
 have i1:¬(p.length:Int)<1:=by omega
 by_cases k2:32<p.length
 ·have i2:(32:Int)<(p.length:Int):=by omega
  have HN:=Lib.hid (chk_many (p:=p) (t:=t) (.inr (.inl k2)));go_enter Tryz.func19,Tryz.ntmps19;go_upto_region 1 with fail;have HX:=Lib.hid (Bx.made w (.slice A p.length c) (.slice B t.length d) 24);generalize w.alloc (.cells #[.slice A p.length c,.slice B t.length d] 24)=W0 at*;have c0:=HX.out.2.2.1;have c1:=HX.out.2.2.2;have SP:=Lib.hid (HX.out.sl hs);have ST:=Lib.hid (HX.out.sl ht);go_wp2_with fail;go_ret;exact⟨by rw[HN.out];rfl,HX.out.1⟩
 have i2:¬(32:Int)<(p.length:Int):=by omega
 by_cases k3:t.length<1
 ·have i3:(t.length:Int)<1:=by omega
  have HN:=Lib.hid (chk_many (p:=p) (t:=t) (.inr (.inr (.inl k3))));go_enter Tryz.func19,Tryz.ntmps19;go_upto_region 1 with fail;have HX:=Lib.hid (Bx.made w (.slice A p.length c) (.slice B t.length d) 24);generalize w.alloc (.cells #[.slice A p.length c,.slice B t.length d] 24)=W0 at*;have c0:=HX.out.2.2.1;have c1:=HX.out.2.2.2;have SP:=Lib.hid (HX.out.sl hs);have ST:=Lib.hid (HX.out.sl ht);go_wp2_with fail;go_ret;exact⟨by rw[HN.out];rfl,HX.out.1⟩
 have i3:¬(t.length:Int)<1:=by omega
 by_cases k4:32<t.length
 ·have i4:(32:Int)<(t.length:Int):=by omega
  have HN:=Lib.hid (chk_many (p:=p) (t:=t) (.inr (.inr (.inr k4))));go_enter Tryz.func19,Tryz.ntmps19;go_upto_region 1 with fail;have HX:=Lib.hid (Bx.made w (.slice A p.length c) (.slice B t.length d) 24);generalize w.alloc (.cells #[.slice A p.length c,.slice B t.length d] 24)=W0 at*;have c0:=HX.out.2.2.1;have c1:=HX.out.2.2.2;have SP:=Lib.hid (HX.out.sl hs);have ST:=Lib.hid (HX.out.sl ht);go_wp2_with fail;go_ret;exact⟨by rw[HN.out];rfl,HX.out.1⟩
 have i4:¬(32:Int)<(t.length:Int):=by omega
 have hno:¬manyP p t:=by unfold manyP;omega
 have HTR:=Lib.hid (fun h=>chk_tree (p:=p) (t:=t) hno h);have HFT:=Lib.hid (fun h1 h2=>chk_fit (p:=p) (t:=t) hno h1 h2);have HLF:=Lib.hid (fun v W h=>leaf_any p A c v W (by omega) h);have HDP:=Lib.hid (fun v W h=>deep_any p A c v W (by omega) h);have hdl:=Lib.hid (fun v=>dep_le p v);clear hno;go_enter Tryz.func19,Tryz.ntmps19;go_upto_region 1 with fail;have HX:=Lib.hid (Bx.made w (.slice A p.length c) (.slice B t.length d) 24);generalize w.alloc (.cells #[.slice A p.length c,.slice B t.length d] 24)=W0 at*;have c0:=HX.out.2.2.1;have c1:=HX.out.2.2.2;have SP:=Lib.hid (HX.out.sl hs);have ST:=Lib.hid (HX.out.sl ht);obtain⟨b,off,hA,hb,hcell⟩:=sl_g SP.out (by omega);have HC:=Lib.hid hcell;have h0:=hcell 0 (by omega);rw[Nat.add_zero]at h0;clear hcell hs ht;have HA:=Lib.hid hA;subst hA;by_cases z:p.getD 0 0= -1
 ·have HZ:=Lib.hid (show okV p 0 from(okV_zero rfl).2 z)
  have q0:=ibne_no z;generalize p.getD 0 0=y at*;go_wp2_with fail;clear z h0 q0;refine wp_loop (RcJ1 p w W0) (fun a' _=>p.length-(intOf (a'.tmps.getD 3 undef)).toNat) ?_ ?_
  ·exact⟨rfl,rfl,rfl,rfl,1,rfl,Nat.le_refl _,by omega,fun v hv=>by rw[show v=0 by omega];exact HZ.out⟩
  ·rintro a' W ⟨hsz,hdf,s1,hW,j,s3,hj1,hj,hgood⟩
   subst hW;obtain⟨u,rfl,hu⟩:=frame98 hsz hdf;rw[hu]at s1 s3;simp only[s1,s3];clear hsz hdf s1 s3 hu;by_cases hlt:j<p.length
   ·have h0:=HC.out j hlt
    have i5:(j:Int)<(p.length:Int):=by omega
    have HBAD:=Lib.hid (fun h:¬okV p j=>HTR.out (.inl fun ht=>h ((tree_iff p).1 ht j hlt)))
    have HGOOD:=Lib.hid (show okV p j→∀v,v<j+1→okV p v from fun h v hv=>by
     by_cases e:v=j
     ·subst e;exact h
     ·exact hgood v (by omega))
    rw[okV_pos (by omega)]at HBAD HGOOD;generalize p.getD j 0=x at*;clear hgood;by_cases h1:x<0
    ·have HN:=Lib.hid (HBAD.out (by omega))
     go_wp2_with fail;go_ret;exact⟨by rw[HN.out];rfl,HX.out.1⟩
    ·by_cases h3:(j:Int)≤x
     ·have HN:=Lib.hid (HBAD.out (by omega))
      go_wp2_with fail;go_ret;exact⟨by rw[HN.out];rfl,HX.out.1⟩
     ·have HN:=Lib.hid (HGOOD.out (by omega))
      go_wp2_with fail;go_roundw
      case rel=>exact⟨rfl,rfl,rfl,rfl,j+1,by go_num,by omega,by omega,HN.out⟩
      case measure=>simp[intOf];omega
   ·obtain rfl:j=p.length:=by omega
    have HT:=Lib.hid ((tree_iff p).2 hgood);have i5:¬(p.length:Int)<(p.length:Int):=by omega
    clear hgood;go_wp2_with fail;refine wp_loop (RcJ2 p w W) (fun a' _=>p.length-(intOf (a'.tmps.getD 5 undef)).toNat) ?_ ?_
    ·exact⟨rfl,rfl,rfl,rfl,0,0,rfl,rfl,Nat.zero_le _,Nat.zero_le _,.inl ⟨rfl,rfl⟩⟩
    ·rintro a' W2 ⟨hsz,hdf,s1,hW,j,F,s4,s5,hj,hF,hfl⟩
     subst hW;obtain⟨u,rfl,hu⟩:=frame98 hsz hdf;rw[hu]at s1 s4 s5;simp only[s1,s4,s5];clear hsz hdf s1 s4 s5 hu;have HFL:=Lib.hid hfl;clear hfl;by_cases hlt:j<p.length
     ·have i5:(j:Int)<(p.length:Int):=by omega
      have hL:=HLF.out (j:Int) W2 SP.out;by_cases hin:(j:Int)∈p
      ·have hd:decide (leafP p (j:Int))=false:=decide_eq_false (fun h=>h.2.2 hin)
       rw[hd]at hL;clear hd;have HL:=Lib.hid hL;have HN:=Lib.hid (first_no HFL.out hin);clear hL hin;go_wp2_with fail;refine(HL.out).mono ?_;rintro e wx ⟨rfl,hwx⟩;obtain rfl:=hwx.symm;go_wp2_with fail;go_roundw
       case rel=>exact⟨rfl,rfl,rfl,rfl,j+1,F,rfl,by go_num,by omega,hF,HN.out⟩
       case measure=>simp[intOf];omega
      ·have hd:decide (leafP p (j:Int))=true:=decide_eq_true ⟨by omega,by omega,hin⟩
       rw[hd]at hL;clear hd;have HL:=Lib.hid hL;have HD:=Lib.hid (HDP.out (j:Int) W2 SP.out);have hdd:=hdl.out (j:Int);have HN1:=Lib.hid (fun h=>first_new hlt h hin);have HN2:=Lib.hid (fun h1 h2 h3=>first_old HFL.out h1 hin h2 h3);have HN3:=Lib.hid (fun h=>HTR.out (.inr (first_deep hlt hin h)));have HN4:=Lib.hid (fun h1 h2=>HTR.out (.inr (first_bad hlt HFL.out h1 hin h2)));clear hL hin;generalize dep p (j:Int)=D at*;by_cases hF0:F=0
       ·subst hF0
        have e0:(((0:Nat):Int)==0)=true:=rfl;have e1:((D:Int) !=(D:Int))=false:=ibne_no rfl;by_cases h5:D≤5
        ·have HN:=Lib.hid (HN1.out HFL.out h5)
         go_wp2_with fail;refine(HL.out).mono ?_;rintro e wx ⟨rfl,hwx⟩;obtain rfl:=hwx.symm;go_wp2_with fail;refine(HD.out).mono ?_;rintro e wx ⟨rfl,hwx⟩;obtain rfl:=hwx.symm;go_wp2_with fail;go_roundw
         case rel=>exact⟨rfl,rfl,rfl,rfl,j+1,D,rfl,by go_num,by omega,hdd,HN.out⟩
         case measure=>simp[intOf];omega
        ·have HN:=Lib.hid (HN3.out (by omega))
         go_wp2_with fail;refine(HL.out).mono ?_;rintro e wx ⟨rfl,hwx⟩;obtain rfl:=hwx.symm;go_wp2_with fail;refine(HD.out).mono ?_;rintro e wx ⟨rfl,hwx⟩;obtain rfl:=hwx.symm;go_wp2_with fail;go_ret;exact⟨by rw[HN.out];rfl,HX.out.1⟩
       ·have e0:((F:Int)==0)=false:=ibeq_no (by omega)
        by_cases he:D=F
        ·have e1:((D:Int) !=(F:Int))=false:=nbne_no he
         by_cases h5:D≤5
         ·have HN:=Lib.hid (HN2.out hF0 he (by omega))
          go_wp2_with fail;refine(HL.out).mono ?_;rintro e wx ⟨rfl,hwx⟩;obtain rfl:=hwx.symm;go_wp2_with fail;refine(HD.out).mono ?_;rintro e wx ⟨rfl,hwx⟩;obtain rfl:=hwx.symm;go_wp2_with fail;go_roundw
          case rel=>exact⟨rfl,rfl,rfl,rfl,j+1,F,rfl,by go_num,by omega,hF,HN.out⟩
          case measure=>simp[intOf];omega
         ·have HN:=Lib.hid (HN3.out (by omega))
          go_wp2_with fail;refine(HL.out).mono ?_;rintro e wx ⟨rfl,hwx⟩;obtain rfl:=hwx.symm;go_wp2_with fail;refine(HD.out).mono ?_;rintro e wx ⟨rfl,hwx⟩;obtain rfl:=hwx.symm;go_wp2_with fail;go_ret;exact⟨by rw[HN.out];rfl,HX.out.1⟩
        ·have e1:((D:Int) !=(F:Int))=true:=nbne he
         have HN:=Lib.hid (HN4.out hF0 he);go_wp2_with fail;refine(HL.out).mono ?_;rintro e wx ⟨rfl,hwx⟩;obtain rfl:=hwx.symm;go_wp2_with fail;refine(HD.out).mono ?_;rintro e wx ⟨rfl,hwx⟩;obtain rfl:=hwx.symm;go_wp2_with fail;go_ret;exact⟨by rw[HN.out];rfl,HX.out.1⟩
     ·obtain rfl:j=p.length:=by omega
      have HFIT:=Lib.hid (HFT.out HT.out (first_end HFL.out));have i5:¬(p.length:Int)<(p.length:Int):=by omega
      clear HFL hdl HDP;go_wp2_with fail;refine wp_loop (RcJ3 p t w W2) (fun a' _=>t.length-(intOf (a'.tmps.getD 7 undef)).toNat) ?_ ?_
      ·exact⟨rfl,rfl,rfl,0,rfl,0,rfl,Nat.zero_le _,fun v hv=>absurd hv (Nat.not_lt_zero v)⟩
      ·rintro a' W3 ⟨hsz,hdf,s1,qd,hW,j,s7,hj,hgood⟩
       have HX3:Hid (Bx w W3 (.slice (some ⟨b,off,none⟩) p.length c) (.slice B t.length d)):=Lib.hid (by rw[hW];exact HX.out.drewN qd);have SP3:Hid (Sl W3 W3.heap.size (some ⟨b,off,none⟩) (p.flatMap decI)):=Lib.hid (by rw[hW];exact SP.out);have ST3:Hid (Sl W3 W3.heap.size B (t.flatMap decI)):=Lib.hid (by rw[hW];exact ST.out);have HW:=Lib.hid hW;clear hW c0 c1;obtain⟨u,rfl,hu⟩:=frame98 hsz hdf;rw[hu]at s1 s7;simp only[s1,s7];clear hsz hdf s1 s7 hu;have c0:=HX3.out.2.2.1;have c1:=HX3.out.2.2.2;by_cases hlt:j<t.length
       ·obtain⟨b2,off2,hB,hb2,hcell2⟩:=sl_g ST3.out (by omega)
        subst hB;have h0:=hcell2 j hlt;have i6:(j:Int)<(t.length:Int):=by omega
        have hL:=HLF.out (t.getD j 0)
        have HN1:=Lib.hid (show leafP p (t.getD j 0)→∀v,v<j+1→leafP p (t.getD v 0) from fun h v hv=>by
         by_cases e:v=j
         ·subst e;exact h
         ·exact hgood v (by omega))
        have HN2:=Lib.hid (show¬leafP p (t.getD j 0)→chk p t=4 from fun h=>by
         rw[HFIT.out,if_neg (fun hh=>h (hh _ (getD_mem hlt)))])
        clear hcell2 hgood;generalize t.getD j 0=x at*;by_cases hl:leafP p x
        ·rw[decide_eq_true hl]at hL
         have HL:=Lib.hid hL;have HN:=Lib.hid (HN1.out hl);clear hL hl HN1 HN2;go_wp2_with fail;go_quiet((go_at_call 40;exact Calls.quiet_of_same (HL.out _ SP3.out)));go_wp2_with fail;go_roundw
         case rel=>exact⟨rfl,rfl,rfl,_,by rw[HW.out,World.drewN_drewN],j+1,by go_num,by omega,HN.out⟩
         case measure=>simp[intOf];omega
        ·rw[decide_eq_false hl]at hL
         have HL:=Lib.hid hL;have HN:=Lib.hid (HN2.out hl);clear hL hl HN1 HN2;go_wp2_with fail;go_quiet((go_at_call 40;exact Calls.quiet_of_same (HL.out _ SP3.out)));go_wp2_with fail;go_ret;exact⟨by rw[HN.out];rfl,below_drewN HX3.out.1 _⟩
       ·obtain rfl:j=t.length:=by omega
        have HN:=Lib.hid (show chk p t=0 by
         rw[HFIT.out,if_pos];intro x hx;obtain⟨v,hv,e⟩:=mem_getD hx;rw[←e];exact hgood v hv)
        have i6:¬(t.length:Int)<(t.length:Int):=by omega
        clear hgood;go_wp2_with fail;go_ret;exact⟨by rw[HN.out];rfl,HX3.out.1⟩
 ·have HN:=Lib.hid (HTR.out (.inl fun ht=>z (by have:=(tree_iff p).1 ht 0 (by omega);rwa [okV_zero rfl]at this)))
  have q0:=ibne z;generalize p.getD 0 0=y at*;clear z;go_wp2_with fail;go_ret;exact⟨by rw[HN.out];rfl,HX.out.1⟩
end Go.Proofs.YtfmiioddhpkdkaaGreat.Tp
namespace Go.Proofs.YtfmiioddhpkdkaaGreat
open Go.RowKit
theorem take_to {P:Program}{md:Region.Mode}{ops:Array Oper}{Q:Exit→Act→World→Prop}{S:World→Prop}(i:Nat)(d:Option Tmp){oi:Oper}{v:Value}{fuel:Nat}{listed:Array Bool}{a:Act}{w:World}(hi:ops[i]? =some oi)(hd:oi.dst=d)
 (hs:Region.noSelect ops=true) (hf:Region.free md ops listed i=true) (hr:(Region.ready md ops listed).contains i=true)
 (hQ:∀c a w,Q (.panic c) (a.put d v) w→Q (.panic c) a w) (hy:YieldsIf P ops S oi v a) (hS:S w)
 (h:wpAnyH P md ops Q S fuel (listed.setIfInBounds i true) (a.put d v) w):wpAnyH P md ops Q S (fuel+1) listed a w:=by
 subst hd;exact wpAnyH_take hi hs hf hr hQ hy hS h
end Go.Proofs.YtfmiioddhpkdkaaGreat
namespace Go.Proofs.YtfmiioddhpkdkaaGreat.Tp
open Go.RowKit Li De Ara
theorem frame68 {a:Act}(h:a.tmps.size=68)(hd:a.defers=[]):∃u:Nat→Value,a={tmps:= #[u 0,u 1,u 2,u 3,u 4,u 5,u 6,u 7,u 8,u 9,u 10,u 11,u 12,u 13,u 14,u 15,u 16,u 17,u 18,u 19,u 20,u 21,u 22,u 23,u 24,u 25,u 26,u 27,u 28,u 29,u 30,u 31,u 32,u 33,u 34,u 35,u 36,u 37,u 38,u 39,u 40,u 41,u 42,u 43,u 44,u 45,u 46,u 47,u 48,u 49,u 50,u 51,u 52,u 53,u 54,u 55,u 56,u 57,u 58,u 59,u 60,u 61,u 62,u 63,u 64,u 65,u 66,u 67],defers:=[]}∧∀n,a.tmps.getD n undef=u n:=by
 refine⟨fun n=>a.tmps.getD n undef,?_,fun _=>rfl⟩;have h1:=arr_lit a.tmps h;cases a with
 |mk t d=>
  simp only at hd h1;subst hd;congr 1
def ChR (p:List Int)(x y:Value)(w:World)(a:Act)(W:World):Prop:=
 a.tmps.size=68∧a.defers=[]∧a.tmps.getD 1 undef= .pointer (some ⟨w.heap.size,0,none⟩)∧∃g eb ec gd:Nat,a.tmps.getD 5 undef= .pointer (some ⟨g,0,none⟩)∧a.tmps.getD 6 undef= .slice (some ⟨gd,0,none⟩) p.length p.length∧
  W.cell? ⟨g,0,none⟩=some (.slice (some ⟨eb,0,none⟩) (lvs p).length ec)∧(∀j,j<(lvs p).length→W.cell? ⟨eb,j,none⟩=some (.int .i64 ((lvs p).getD j 0)))∧
  (∀v,v<p.length→W.cell? ⟨gd,v,none⟩=some (.int .i64 (dep p (v:Int):Int)))∧Bx w W x y
theorem cell_set_ne {w:World}{g b i:Nat}(h:b≠g)(u:Value):(w.setCell ⟨g,0,none⟩ u).cell? ⟨b,i,none⟩=w.cell? ⟨b,i,none⟩:=by
 simp only[World.cell?,Below.heap_setCell w ⟨g,0,none⟩ u b h]
theorem Bx.set {w W:World}{x y:Value}(h:Bx w W x y){g:Nat}(hg:w.heap.size<g)(u:Value):Bx w (W.setCell ⟨g,0,none⟩ u) x y:=by
 obtain⟨h1,h2,h3,h4⟩:=h;exact⟨h1.setCell (p:=⟨g,0,none⟩) (Nat.le_of_lt hg) u,by simpa using h2,(cell_set_ne (Nat.ne_of_lt hg) u).trans h3,(cell_set_ne (Nat.ne_of_lt hg) u).trans h4⟩
theorem nin_no {p t:List Int}(h:anyF (nin (lvs p)) t=false):∀x∈t,leafP p x:=by
 intro x hx;unfold anyF at h;rw[List.any_eq_false]at h;have:=h x hx;unfold nin at this;rw[←mem_lvs];simpa using this
theorem nin_yes {p t:List Int}(h:anyF (nin (lvs p)) t=true):¬∀x∈t,leafP p x:=by
 intro hh;unfold anyF at h;rw[List.any_eq_true]at h;obtain⟨x,hx,h⟩:=h;have:=mem_lvs.2 (hh x hx);unfold nin at h;simp[this]at h
theorem lvs_len (p:List Int):(lvs p).length≤p.length:=lvK_len p _
theorem lvs_at {p:List Int}{j:Nat}(h:j<(lvs p).length):∃v:Nat,(lvs p).getD j 0=(v:Int)∧v<p.length∧leafP p (v:Int):=by
 have:=mem_lvs.1 (getD_mem h);obtain⟨h1,h2,h3⟩:=this;exact⟨((lvs p).getD j 0).toNat,by omega,by omega,by rw[Int.toNat_of_nonneg h1];exact⟨h1,h2,h3⟩⟩
theorem lvB_all {p:List Int}{v:Nat}(h:v<p.length):(lvB p p.length).getD v 0=(dep p (v:Int):Int):=lvB_at h h
theorem lv_cell {w:World}{g:Nat}{p:List Int}(h:w.heap[g]? =some (.cells (its (lvB p p.length)) 3 (0,0))){v:Nat}(hv:v<p.length):w.cell? ⟨g,v,none⟩=some (.int .i64 (dep p (v:Int):Int)):=by
 rw[its_cell h (by rw[lvB_len];exact hv),lvB_all hv]
def ChJ (p:List Int)(g gd eb ec:Nat)(w W0:World)(a:Act)(W:World):Prop:=
 a.tmps.size=68∧a.defers=[]∧a.tmps.getD 1 undef= .pointer (some ⟨w.heap.size,0,none⟩)∧a.tmps.getD 5 undef= .pointer (some ⟨g,0,none⟩)∧a.tmps.getD 6 undef= .slice (some ⟨gd,0,none⟩) p.length p.length∧a.tmps.getD 39 undef= .slice (some ⟨eb,0,none⟩) (lvs p).length ec∧a.tmps.getD 40 undef= .int .i64 ((lvs p).length:Int)∧
  ∃q,W=W0.drewN q∧∃j:Nat,a.tmps.getD 41 undef= .int .i64 (j:Int)∧j≤(lvs p).length∧(∀v,v<j→dep p ((lvs p).getD v 0)=dep p ((lvs p).getD 0 0)∧dep p ((lvs p).getD v 0)≤5)
theorem check_any (p t:List Int)(A B:Option Addr)(c d:Nat)(w:World)(hp:p.length≤100000)(htl:t.length≤100000)(hs:Sl w w.heap.size A (p.flatMap decI))(ht:Sl w w.heap.size B (t.flatMap decI)):
 Calls Tryz.prog 57 #[(.agg #[.slice A p.length c,.slice B t.length d])] w fun e w'=>e= .returned (.int .i64 (chk p t))∧Below w.heap.size w w':=by
 by_cases k1:p.length<1
 ·have i1:(p.length:Int)<1:=by omega
  have HN:=Lib.hid (chk_many (p:=p) (t:=t) (.inl k1));go_enter Tryz.func57,Tryz.ntmps57;go_upto_region 1 with fail;have HX:=Lib.hid (Bx.made w (.slice A p.length c) (.slice B t.length d) 24);generalize w.alloc (.cells #[.slice A p.length c,.slice B t.length d] 24)=W0 at*;have c0:=HX.out.2.2.1;have c1:=HX.out.2.2.2;have SP:=Lib.hid (HX.out.sl hs);have ST:=Lib.hid (HX.out.sl ht);go_quiet(fail);go_wp2_with fail;go_ret;exact⟨by rw[HN.out];rfl,below_drewN HX.out.1 _⟩
 have i1:¬(p.length:Int)<1:=by omega
 by_cases k2:32<p.length
 ·have i2:(32:Int)<(p.length:Int):=by omega
  have HN:=Lib.hid (chk_many (p:=p) (t:=t) (.inr (.inl k2)));go_enter Tryz.func57,Tryz.ntmps57;go_upto_region 1 with fail;have HX:=Lib.hid (Bx.made w (.slice A p.length c) (.slice B t.length d) 24);generalize w.alloc (.cells #[.slice A p.length c,.slice B t.length d] 24)=W0 at*;have c0:=HX.out.2.2.1;have c1:=HX.out.2.2.2;have SP:=Lib.hid (HX.out.sl hs);have ST:=Lib.hid (HX.out.sl ht);go_quiet(fail);go_wp2_with fail;go_ret;exact⟨by rw[HN.out];rfl,below_drewN HX.out.1 _⟩
 have i2:¬(32:Int)<(p.length:Int):=by omega
 by_cases k3:t.length<1
 ·have i3:(t.length:Int)<1:=by omega
  have HN:=Lib.hid (chk_many (p:=p) (t:=t) (.inr (.inr (.inl k3))));go_enter Tryz.func57,Tryz.ntmps57;go_upto_region 1 with fail;have HX:=Lib.hid (Bx.made w (.slice A p.length c) (.slice B t.length d) 24);generalize w.alloc (.cells #[.slice A p.length c,.slice B t.length d] 24)=W0 at*;have c0:=HX.out.2.2.1;have c1:=HX.out.2.2.2;have SP:=Lib.hid (HX.out.sl hs);have ST:=Lib.hid (HX.out.sl ht);go_quiet(fail);go_wp2_with fail;go_ret;exact⟨by rw[HN.out];rfl,below_drewN HX.out.1 _⟩
 have i3:¬(t.length:Int)<1:=by omega
 by_cases k4:32<t.length
 ·have i4:(32:Int)<(t.length:Int):=by omega
  have HN:=Lib.hid (chk_many (p:=p) (t:=t) (.inr (.inr (.inr k4))));go_enter Tryz.func57,Tryz.ntmps57;go_upto_region 1 with fail;have HX:=Lib.hid (Bx.made w (.slice A p.length c) (.slice B t.length d) 24);generalize w.alloc (.cells #[.slice A p.length c,.slice B t.length d] 24)=W0 at*;have c0:=HX.out.2.2.1;have c1:=HX.out.2.2.2;have SP:=Lib.hid (HX.out.sl hs);have ST:=Lib.hid (HX.out.sl ht);go_quiet(fail);go_wp2_with fail;go_ret;exact⟨by rw[HN.out];rfl,below_drewN HX.out.1 _⟩
 have i4:¬(32:Int)<(t.length:Int):=by omega
 have hno:¬manyP p t:=by unfold manyP;omega
 have HTR:=Lib.hid (fun h=>chk_tree (p:=p) (t:=t) hno h);have HFT:=Lib.hid (fun h1 h2=>chk_fit (p:=p) (t:=t) hno h1 h2);have HLT:=Lib.hid (fun W h=>tree_any p A c W (by omega) h);clear hno;go_enter Tryz.func57,Tryz.ntmps57;go_upto_region 1 with fail;have HX:=Lib.hid (Bx.made w (.slice A p.length c) (.slice B t.length d) 24);generalize w.alloc (.cells #[.slice A p.length c,.slice B t.length d] 24)=W0 at*;have c0:=HX.out.2.2.1;have c1:=HX.out.2.2.2;have SP:=Lib.hid (HX.out.sl hs);have ST:=Lib.hid (HX.out.sl ht);have HS:=Lib.hid hs;have HT:=Lib.hid ht;clear hs ht SP ST;go_quiet(fail);have HX1:=Lib.hid (HX.out.drewN nq);generalize W0.drewN nq=W1 at*;clear HX c0 c1;have c0:=HX1.out.2.2.1;have c1:=HX1.out.2.2.2;have SP:=Lib.hid (HX1.out.sl HS.out);have ST:=Lib.hid (HX1.out.sl HT.out);by_cases ktr:treeP p
 ·have hd:decide (treeP p)=true:=decide_eq_true ktr
  rw[hd]at HLT;have KT:=Lib.hid ktr;clear hd ktr;go_wp2_with fail;refine(HLT.out _ SP.out).mono ?_;rintro e wx ⟨rfl,hwx⟩;obtain rfl:=hwx.symm;go_upto_region 6 with fail;refine wp_cut (ChR p (.slice A p.length c) (.slice B t.length d) w) ?_ ?_
  ·rintro a' W2 ⟨hsz,hdf,s1,g,eb,ec,gd,s5,s6,cg,fe,fd,hx⟩
   obtain⟨u,rfl,hu⟩:=frame68 hsz hdf;rw[hu]at s1 s5 s6;simp only[s1,s5,s6];clear hsz hdf s1 s5 s6 hu;clear SP ST c0 c1 HLT;have HFE:=Lib.hid fe;have HFD:=Lib.hid fd;have HX2:=Lib.hid hx;clear fe fd hx;go_wp2_with fail;refine wp_loop (ChJ p g gd eb ec w W2) (fun a' _=>(lvs p).length-(intOf (a'.tmps.getD 41 undef)).toNat) ?_ ?_
   ·exact⟨rfl,rfl,rfl,rfl,rfl,rfl,rfl,0,rfl,0,rfl,Nat.zero_le _,fun v hv=>absurd hv (Nat.not_lt_zero v)⟩
   ·rintro a' W3 ⟨hsz,hdf,s1,s5,s6,s39,s40,qd,hW,j,s41,hj,hgood⟩
    obtain⟨u,rfl,hu⟩:=frame68 hsz hdf;rw[hu]at s1 s5 s6 s39 s40 s41;simp only[s1,s5,s6,s39,s40,s41];clear hsz hdf s1 s5 s6 s39 s40 s41 hu;have HX3:Hid (Bx w W3 (.slice A p.length c) (.slice B t.length d)):=Lib.hid (by rw[hW];exact HX2.out.drewN qd);have HFE3:Hid (∀j,j<(lvs p).length→W3.cell? ⟨eb,j,none⟩=some (.int .i64 ((lvs p).getD j 0))):=Lib.hid (by rw[hW];exact HFE.out);have HFD3:Hid (∀v,v<p.length→W3.cell? ⟨gd,v,none⟩=some (.int .i64 (dep p (v:Int):Int))):=Lib.hid (by rw[hW];exact HFD.out);have cg3:W3.cell? ⟨g,0,none⟩=some (.slice (some ⟨eb,0,none⟩) (lvs p).length ec):=by rw[hW];exact cg
    have HW:=Lib.hid hW;clear hW;have hLL:=lvs_len p;by_cases hlt:j<(lvs p).length
    ·obtain⟨v,hv,hvp,hvl⟩:=lvs_at hlt
     obtain⟨a,ha,hap,hal⟩:=lvs_at (p:=p) (j:=0) (by omega);have e0:=HFE3.out j hlt;have e1:=HFE3.out 0 (by omega);have d0:=HFD3.out v hvp;have d1:=HFD3.out a hap;have i5:(j:Int)<((lvs p).length:Int):=by omega
     have HBAD:=Lib.hid (show¬(dep p (v:Int)=dep p (a:Int)∧dep p (v:Int)≤5)→chk p t=9 from fun h=>HTR.out (.inr fun hf=>h (hf _ (mem_lvs.2 hvl) _ (mem_lvs.2 hal))))
     have HGOOD:=Lib.hid (show dep p (v:Int)=dep p (a:Int)∧dep p (v:Int)≤5→∀v,v<j+1→dep p ((lvs p).getD v 0)=dep p ((lvs p).getD 0 0)∧dep p ((lvs p).getD v 0)≤5 from fun h u hu=>by
      by_cases e:u=j
      ·subst e;rw[hv,ha];exact h
      ·exact hgood u (by omega))
     rw[hv]at e0;rw[ha]at e1;clear hgood hv ha hvl hal;generalize dep p (v:Int)=D at*;generalize dep p (a:Int)=E at*;by_cases h1:D=E
     ·have q1:=nbne_no h1
      by_cases h2:D≤5
      ·have i6:¬(5:Int)<(D:Int):=by omega
       have HN:=Lib.hid (HGOOD.out ⟨h1,h2⟩);clear HBAD HGOOD h1;go_wp2_with fail;go_quiet(fail);go_wp2_with fail;go_roundw
       case rel=>exact⟨rfl,rfl,rfl,rfl,rfl,rfl,rfl,_,by rw[HW.out,World.drewN_drewN],j+1,by go_num,by omega,HN.out⟩
       case measure=>simp[intOf];omega
      ·have i6:(5:Int)<(D:Int):=by omega
       have HN:=Lib.hid (HBAD.out (fun h=>h2 h.2));clear HBAD HGOOD h1;go_wp2_with fail;go_quiet(fail);go_wp2_with fail;go_ret;exact⟨by rw[HN.out];rfl,below_drewN HX3.out.1 _⟩
     ·have q1:=nbne h1
      have HN:=Lib.hid (HBAD.out (fun h=>h1 h.1));clear HBAD HGOOD h1;go_wp2_with fail;go_quiet(fail);go_wp2_with fail;go_ret;exact⟨by rw[HN.out];rfl,below_drewN HX3.out.1 _⟩
    ·obtain rfl:j=(lvs p).length:=by omega
     have hflat:flatP p:=by
      intro v hv u hu;obtain⟨i,hi,rfl⟩:=mem_getD hv;obtain⟨k,hk,rfl⟩:=mem_getD hu;have:=hgood i hi;have:=hgood k hk;omega
     have HFIT:=Lib.hid (HFT.out KT.out hflat);have i5:¬((lvs p).length:Int)<((lvs p).length:Int):=by omega
     have c1:=HX3.out.2.2.2;have hmf:∀(fn:Fn) (first cap:Array Value) (w:World),(Instr.makeFunc fn first cap).run Tryz.prog w= .ok (.func fn first cap) w:=fun _ _ _ _=>rfl;have hC:=cfC_any (lvs p) t B d g eb 0 ec W3 (by omega) (by omega) (HX3.out.sl HT.out) cg3 (fun j hj=>by rw[Nat.zero_add];exact HFE3.out j hj);clear hgood hflat;cases hr:anyF (nin (lvs p)) t with
     |true=>
      have HN:=Lib.hid (HFIT.out.trans (if_neg (nin_yes hr)));rw[hr]at hC;have HC:=Lib.hid hC;clear hC hr;go_wp2_with fail;refine(HC.out).mono ?_;rintro e wx ⟨rfl,hwx⟩;obtain rfl:=hwx.symm;go_wp2_with fail;go_ret;exact⟨by rw[HN.out];rfl,HX3.out.1⟩
     |false=>
      have HN:=Lib.hid (HFIT.out.trans (if_pos (nin_no hr)));rw[hr]at hC;have HC:=Lib.hid hC;clear hC hr;go_wp2_with fail;refine(HC.out).mono ?_;rintro e wx ⟨rfl,hwx⟩;obtain rfl:=hwx.symm;go_wp2_with fail;go_ret;exact⟨by rw[HN.out];rfl,HX3.out.1⟩
  ·intro J K' hJ hK'
   have HL:=Lib.hid (fun W h=>leaves_row p A c W (by omega) (by omega) KT.out h);have HV:=Lib.hid (fun W h=>levels_any p A c W (by omega) KT.out h);have SPd:Hid (Sl W1.drew W1.drew.heap.size A (p.flatMap decI)):=Lib.hid SP.out;have HXd:Hid (Bx w W1.drew (.slice A p.length c) (.slice B t.length d)):=Lib.hid ⟨Below.drew HX1.out.1,HX1.out.2⟩;have hw1:w.heap.size<W1.heap.size:=HX1.out.2.1;have d0:W1.drew.cell? ⟨w.heap.size,0,none⟩=some (.slice A p.length c):=c0;refine wp_region_held_drew (S:=fun V=>V.cell? ⟨w.heap.size,0,none⟩=some (.slice A p.length c)) (by kernel_rfl) d0 (fun hHeld=> ?_);clear c0 c1 d0 SP ST HX1 HLT;generalize W1.drew=X0 at*;have hb0:w.heap.size<X0.heap.size:=HXd.out.2.1;refine take_to 0 (some 33) (v:= ?_) rfl rfl (by kernel_rfl) (by kernel_rfl) (by kernel_rfl) (fun _ _ _ h=>h) (Or.inl ⟨by rfl,?_⟩) (by first|trivial|assumption) ?_;rotate_left;focus(intro w hSw;(try dsimp only at hSw);go_simp;(try with_reducible rfl))
   simp only[Act.put,List.setIfInBounds_toArray,List.set_cons_zero,List.set_cons_succ];refine take_to 1 (some 34) (v:= ?_) rfl rfl (by kernel_rfl) (by kernel_rfl) (by kernel_rfl) (fun _ _ _ h=>h) (Or.inl ⟨by rfl,?_⟩) (by first|trivial|assumption) ?_;rotate_left;focus(intro w hSw;(try dsimp only at hSw);go_simp;(try with_reducible rfl))
   simp only[Act.put,List.setIfInBounds_toArray,List.set_cons_zero,List.set_cons_succ];refine take_to 3 (some 36) (v:= ?_) rfl rfl (by kernel_rfl) (by kernel_rfl) (by kernel_rfl) (fun _ _ _ h=>h) (Or.inl ⟨by rfl,?_⟩) (by first|trivial|assumption) ?_;rotate_left;focus(intro w hSw;(try dsimp only at hSw);go_simp;(try with_reducible rfl))
   simp only[Act.put,List.setIfInBounds_toArray,List.set_cons_zero,List.set_cons_succ];refine take_to 4 (some 37) (v:= ?_) rfl rfl (by kernel_rfl) (by kernel_rfl) (by kernel_rfl) (fun _ _ _ h=>h) (Or.inl ⟨by rfl,?_⟩) (by first|trivial|assumption) ?_;rotate_left;focus(intro w hSw;(try dsimp only at hSw);go_simp;(try with_reducible rfl))
   simp only[Act.put,List.setIfInBounds_toArray,List.set_cons_zero,List.set_cons_succ];refine wpAnyH_ready (rs:=[2,6]) (by kernel_rfl) (by simp) ?_;refine AllReadyH.cons rfl (fun K hK=> ?_) (AllReadyH.cons rfl (fun K hK=> ?_) AllReadyH.nil)
   ·go_simp
    refine(HL.out _ SPd.out).mono ?_;rintro e wl ⟨eb,ec,rfl,le1,le2,fe,bl⟩;have HXl:=Lib.hid (HXd.out.step bl);have SW:=Lib.hid (SPd.out.step bl);have FE0:=Lib.hid fe;have hbl:=HXl.out.2.1;clear fe bl;go_simp;refine hK.out _ _ HXl.out.2.2.1 (fun hHeld=> ?_);refine wpAnyH_ready (rs:=[5,6]) (by kernel_rfl) (by simp) ?_;refine AllReadyH.cons rfl (fun K hK=> ?_) (AllReadyH.cons rfl (fun K hK=> ?_) AllReadyH.nil)
    ·go_simp
     refine(HV.out _ SW.out).mono ?_;rintro e wd ⟨rfl,fd,bd⟩;have HXv:=Lib.hid (HXl.out.step bd);have FE:=Lib.hid (fun j hj=>(bd.cell (p:=⟨eb,j,none⟩) le2).trans (FE0.out j hj));have FD:=Lib.hid fd;have hgd:=lt_of_blk fd;have heb:eb<wd.heap.size:=Nat.lt_of_lt_of_le le2 bd.size;clear fd bd;go_simp;refine hK.out _ _ HXv.out.2.2.1 (fun hHeld=> ?_);refine wpAnyH_ready (rs:=[6]) (by kernel_rfl) (by simp) ?_;refine AllReadyH.cons rfl (fun K hK=> ?_) AllReadyH.nil;go_simp;have G0:=Lib.hid (blk_new wd (.cells #[.slice none 0 0] 22));have HXa:=Lib.hid (HXv.out.step (below_new wd (.cells #[.slice none 0 0] 22)));refine hK.out _ _ HXa.out.2.2.1 (fun hHeld=> ?_);have g0:=blk_cell G0.out 0 (by simp);have g1:=blk_free G0.out 0;refine wpAnyH_ready (rs:=[7]) (by kernel_rfl) (by simp) ?_;refine AllReadyH.cons rfl (fun K hK=> ?_) AllReadyH.nil;go_simp;have HX9:=Lib.hid (HXv.out.step (below_new wd (.cells #[.slice (some ⟨eb,0,none⟩) (lvs p).length ec] 22)));have hG:=blk_cell (blk_new wd (.cells #[.slice (some ⟨eb,0,none⟩) (lvs p).length ec] 22)) 0 (by simp);have hb9:=below_new wd (.cells #[.slice (some ⟨eb,0,none⟩) (lvs p).length ec] 22);have HFE:=Lib.hid (fun j hj=>(hb9.cell (p:=⟨eb,j,none⟩) heb).trans (FE.out j hj));have HFD:=Lib.hid (fun(v:Nat) (hv:v<p.length)=>(hb9.cell (p:=⟨wl.heap.size,v,none⟩) hgd).trans (lv_cell FD.out hv));clear hb9 g0 g1;refine hK.out _ _ HX9.out.2.2.1 (fun hHeld=> ?_);refine take_to 8 (some 6) (v:= ?_) rfl rfl (by kernel_rfl) (by kernel_rfl) (by kernel_rfl) (fun _ _ _ h=>h) (Or.inl ⟨by rfl,?_⟩) (by first|trivial|assumption) ?_;rotate_left;focus(intro w hSw;(try dsimp only at hSw);go_simp;(try with_reducible rfl))
     simp only[Act.put,List.setIfInBounds_toArray,List.set_cons_zero,List.set_cons_succ];refine wpAnyH_done (by kernel_rfl) ?_ _;exact hK' _ _ (Met.intro (hJ _ _ ⟨rfl,rfl,rfl,wd.heap.size,eb,ec,wl.heap.size,rfl,rfl,hG,HFE.out,HFD.out,HX9.out⟩))
    ·go_simp
     have HXa:=Lib.hid (HXl.out.step (below_new wl (.cells #[.slice none 0 0] 22)));have G0:=Lib.hid (blk_new wl (.cells #[.slice none 0 0] 22));have FE1:=Lib.hid (fun j hj=>((below_new wl (.cells #[.slice none 0 0] 22)).cell (p:=⟨eb,j,none⟩) le2).trans (FE0.out j hj));have SW1:=Lib.hid (SW.out.push (.cells #[.slice none 0 0] 22));have hsz:(wl.alloc (.cells #[.slice none 0 0] 22)).heap.size=wl.heap.size+1:=by simp
     refine hK.out _ _ HXa.out.2.2.1 (fun hHeld=> ?_);clear FE0 SW HXl;generalize hwa:wl.alloc (.cells #[.slice none 0 0] 22)=wa at*;clear hwa;refine wpAnyH_ready (rs:=[5]) (by kernel_rfl) (by simp) ?_;refine AllReadyH.cons rfl (fun K hK=> ?_) AllReadyH.nil;go_simp;refine(HV.out _ SW1.out).mono ?_;rintro e wd ⟨rfl,fd,bd⟩;have HXv:=Lib.hid (HXa.out.step bd);have FE:=Lib.hid (fun j hj=>(bd.cell (p:=⟨eb,j,none⟩) (by rw[hsz];exact Nat.lt_succ_of_lt le2)).trans (FE1.out j hj));have FD:=Lib.hid fd;have GV:=Lib.hid ((bd.block wl.heap.size (by omega)).trans G0.out);clear fd bd;go_simp;refine hK.out _ _ HXv.out.2.2.1 (fun hHeld=> ?_);have g0:=blk_cell GV.out 0 (by simp);have g1:=blk_free GV.out 0;refine wpAnyH_ready (rs:=[7]) (by kernel_rfl) (by simp) ?_;refine AllReadyH.cons rfl (fun K hK=> ?_) AllReadyH.nil;go_simp;have HX9:=Lib.hid (HXv.out.set (g:=wl.heap.size) (by omega) (.slice (some ⟨eb,0,none⟩) (lvs p).length ec));have hG:=blk_cell (blk_set GV.out 0 (.slice (some ⟨eb,0,none⟩) (lvs p).length ec)) 0 (by simp);have HFE:=Lib.hid (fun j hj=>(cell_set_ne (i:=j) (show eb≠wl.heap.size by omega) (.slice (some ⟨eb,0,none⟩) (lvs p).length ec)).trans (FE.out j hj));have HFD:=Lib.hid (fun(v:Nat) (hv:v<p.length)=>(cell_set_ne (i:=v) (show wa.heap.size≠wl.heap.size by omega) (.slice (some ⟨eb,0,none⟩) (lvs p).length ec)).trans (lv_cell FD.out hv));clear g0 g1;refine hK.out _ _ HX9.out.2.2.1 (fun hHeld=> ?_);refine take_to 8 (some 6) (v:= ?_) rfl rfl (by kernel_rfl) (by kernel_rfl) (by kernel_rfl) (fun _ _ _ h=>h) (Or.inl ⟨by rfl,?_⟩) (by first|trivial|assumption) ?_;rotate_left;focus(intro w hSw;(try dsimp only at hSw);go_simp;(try with_reducible rfl))
     simp only[Act.put,List.setIfInBounds_toArray,List.set_cons_zero,List.set_cons_succ];refine wpAnyH_done (by kernel_rfl) ?_ _;exact hK' _ _ (Met.intro (hJ _ _ ⟨rfl,rfl,rfl,wl.heap.size,eb,ec,wl.heap.size+1,rfl,rfl,hG,HFE.out,(by rw[←hsz];exact HFD.out),HX9.out⟩))
   ·go_simp
    have HXa:=Lib.hid (HXd.out.step (below_new X0 (.cells #[.slice none 0 0] 22)));have G0:=Lib.hid (blk_new X0 (.cells #[.slice none 0 0] 22));have SW1:=Lib.hid (SPd.out.push (.cells #[.slice none 0 0] 22));have hsz:(X0.alloc (.cells #[.slice none 0 0] 22)).heap.size=X0.heap.size+1:=by simp
    refine hK.out _ _ HXa.out.2.2.1 (fun hHeld=> ?_);clear SPd HXd;generalize hwa:X0.alloc (.cells #[.slice none 0 0] 22)=wa at*;clear hwa;refine wpAnyH_ready (rs:=[2]) (by kernel_rfl) (by simp) ?_;refine AllReadyH.cons rfl (fun K hK=> ?_) AllReadyH.nil;go_simp;refine(HL.out _ SW1.out).mono ?_;rintro e wl ⟨eb,ec,rfl,le1,le2,fe,bl⟩;have HXl:=Lib.hid (HXa.out.step bl);have SW:=Lib.hid (SW1.out.step bl);have FE0:=Lib.hid fe;have G1:=Lib.hid ((bl.block X0.heap.size (by omega)).trans G0.out);have hxl:=lt_of_blk G1.out;clear fe bl;go_simp;refine hK.out _ _ HXl.out.2.2.1 (fun hHeld=> ?_);refine wpAnyH_ready (rs:=[5]) (by kernel_rfl) (by simp) ?_;refine AllReadyH.cons rfl (fun K hK=> ?_) AllReadyH.nil;go_simp;refine(HV.out _ SW.out).mono ?_;rintro e wd ⟨rfl,fd,bd⟩;have HXv:=Lib.hid (HXl.out.step bd);have FE:=Lib.hid (fun j hj=>(bd.cell (p:=⟨eb,j,none⟩) le2).trans (FE0.out j hj));have FD:=Lib.hid fd;have GV:=Lib.hid ((bd.block X0.heap.size hxl).trans G1.out);clear fd bd;go_simp;refine hK.out _ _ HXv.out.2.2.1 (fun hHeld=> ?_);have g0:=blk_cell GV.out 0 (by simp);have g1:=blk_free GV.out 0;refine wpAnyH_ready (rs:=[7]) (by kernel_rfl) (by simp) ?_;refine AllReadyH.cons rfl (fun K hK=> ?_) AllReadyH.nil;go_simp;have HX9:=Lib.hid (HXv.out.set (g:=X0.heap.size) (by omega) (.slice (some ⟨eb,0,none⟩) (lvs p).length ec));have hG:=blk_cell (blk_set GV.out 0 (.slice (some ⟨eb,0,none⟩) (lvs p).length ec)) 0 (by simp);have HFE:=Lib.hid (fun j hj=>(cell_set_ne (i:=j) (show eb≠X0.heap.size by omega) (.slice (some ⟨eb,0,none⟩) (lvs p).length ec)).trans (FE.out j hj));have HFD:=Lib.hid (fun(v:Nat) (hv:v<p.length)=>(cell_set_ne (i:=v) (show wl.heap.size≠X0.heap.size by omega) (.slice (some ⟨eb,0,none⟩) (lvs p).length ec)).trans (lv_cell FD.out hv));clear g0 g1;refine hK.out _ _ HX9.out.2.2.1 (fun hHeld=> ?_);refine take_to 8 (some 6) (v:= ?_) rfl rfl (by kernel_rfl) (by kernel_rfl) (by kernel_rfl) (fun _ _ _ h=>h) (Or.inl ⟨by rfl,?_⟩) (by first|trivial|assumption) ?_;rotate_left;focus(intro w hSw;(try dsimp only at hSw);go_simp;(try with_reducible rfl))
    simp only[Act.put,List.setIfInBounds_toArray,List.set_cons_zero,List.set_cons_succ];refine wpAnyH_done (by kernel_rfl) ?_ _;exact hK' _ _ (Met.intro (hJ _ _ ⟨rfl,rfl,rfl,X0.heap.size,eb,ec,wl.heap.size,rfl,rfl,hG,HFE.out,HFD.out,HX9.out⟩))
 ·have hd:decide (treeP p)=false:=decide_eq_false ktr
  rw[hd]at HLT;have HN:=Lib.hid (HTR.out (.inl ktr));clear hd ktr;go_wp2_with fail;refine(HLT.out _ SP.out).mono ?_;rintro e wx ⟨rfl,hwx⟩;obtain rfl:=hwx.symm;go_wp2_with fail;go_ret;exact⟨by rw[HN.out];rfl,HX1.out.1⟩
end Go.Proofs.YtfmiioddhpkdkaaGreat.Tp
namespace Go.Proofs.YtfmiioddhpkdkaaGreat.Tp
open Go.RowKit Li De Ara
theorem chk_len {p t:List Int}(h:chk p t=0):0<p.length∧p.length≤32∧0<t.length∧t.length≤32:=by
 have:=(chk_ok h).1;unfold manyP at this;omega
end Go.Proofs.YtfmiioddhpkdkaaGreat.Tp
