/- Merged texts: SlI, Tp3, Tp4, Reg. -/
import Derived.Test.YtfmiioddhpkdkaaGreatWh1
import Derived.Deep.Cut
import Derived.Deep.CutBlock
import Derived.Deep.RegionHeld3
set_option linter.unusedVariables false
set_option linter.unusedSimpArgs false
namespace Go.Proofs.YtfmiioddhpkdkaaGreat.Tp
open Go.RowKit Go.Proofs.YtfmiioddhpkdkaaGreat.Ara
def idxF (x:Int):List Int→Nat→Int
 |[],_=> -1
 |y::r,n=>if y=x then(n:Int)else idxF x r (n+1)
def idxI (l:List Int)(x:Int):Int:=idxF x l 0
theorem idxF_hit {x:Int}:∀ {l:List Int} {j n:Nat},j<l.length→l.getD j 0=x→(∀v,v<j→l.getD v 0≠x)→idxF x l n=((n+j:Nat):Int):=by
 intro l
 induction l with
 |nil=>intro j n hj;simp at hj
 |cons y r ih=>
  intro j n hj h hn;unfold idxF;cases j with
  |zero=>
   have:y=x:=by simpa using h
   rw[if_pos this,Nat.add_zero]
  |succ j=>
   have h0:y≠x:=by simpa using hn 0 (by omega)
   rw[if_neg h0,ih (j:=j) (by simpa using hj) (by simpa using h) (fun v hv=>by simpa using hn (v+1) (by omega))];congr 1;omega
theorem idxF_miss {x:Int}:∀ {l:List Int} {n:Nat},(∀v,v<l.length→l.getD v 0≠x)→idxF x l n= -1:=by
 intro l
 induction l with
 |nil=>intro n _;rfl
 |cons y r ih=>
  intro n hn;unfold idxF;have h0:y≠x:=by simpa using hn 0 (by simp)
  rw[if_neg h0,ih (fun v hv=>by simpa using hn (v+1) (by simpa using hv))]
theorem idx_hit {l:List Int}{x:Int}{j:Nat}(hj:j<l.length)(h:l.getD j 0=x)(hn:∀v,v<j→l.getD v 0≠x):idxI l x=j:=by
 unfold idxI;rw[idxF_hit hj h hn,Nat.zero_add]
theorem idx_miss {l:List Int}{x:Int}(hn:∀v,v<l.length→l.getD v 0≠x):idxI l x= -1:=idxF_miss hn
theorem idxF_mem {x:Int}:∀ {l:List Int} {n:Nat},0≤idxF x l n↔x∈l:=by
 intro l
 induction l with
 |nil=>intro n;simp[idxF]
 |cons y r ih=>
  intro n;unfold idxF;by_cases h:y=x
  ·rw[if_pos h]
   simp[h]
  ·rw[if_neg h,ih,List.mem_cons]
   exact⟨.inr,fun h1=>h1.resolve_left fun e=>h e.symm⟩
theorem idx_ge {l:List Int}{x:Int}:decide (0≤idxI l x)=decide (x∈l):=decide_eq_decide.2 idxF_mem
theorem idx_at {x:Int}:∀ {l:List Int} {n:Nat},x∈l→∃j:Nat,j<l.length∧idxF x l n=((n+j:Nat):Int)∧l.getD j 0=x:=by
 intro l
 induction l with
 |nil=>intro n h;simp at h
 |cons y r ih=>
  intro n h;unfold idxF;by_cases e:y=x
  ·exact⟨0,by simp,by rw[if_pos e,Nat.add_zero],by simpa using e⟩
  ·obtain⟨j,h1,h2,h3⟩:=ih (n:=n+1) ((List.mem_cons.1 h).resolve_left fun e9=>e e9.symm)
   refine⟨j+1,by simpa using h1,?_,by simpa using h3⟩;rw[if_neg e,h2];congr 1;omega
theorem index_any (l:List Int)(b off c:Nat)(x:Int)(w:World)(hm:l.length≤1000)(hc:∀j,j<l.length→w.cell? ⟨b,off+j,none⟩=some (.int .i64 (l.getD j 0))):
 Calls Tryz.prog 78 #[.slice (some ⟨b,off,none⟩) l.length c,.int .i64 x] w fun e w'=>e= .returned (.int .i64 (idxI l x))∧w'=w:=by
 have HT:=Lib.hid (fun j (hj:j<l.length) (h:l.getD j 0=x) (hn:∀v,v<j→l.getD v 0≠x)=>idx_hit hj h hn);have HF:=Lib.hid (fun h:∀v,v<l.length→l.getD v 0≠x=>idx_miss h);have HC:=Lib.hid hc;clear hc;go_enter Tryz.func78,Tryz.ntmps78;go_wp2_with fail;go_loopw [8] (fun i wr=>∃j:Nat,j≤l.length∧i= .int .i64 (j:Int)∧(∀v,v<j→l.getD v 0≠x)∧wr=w) (fun i _=>l.length-(intOf i).toNat)
 case atStart=>exact⟨0,Nat.zero_le _,rfl,fun v hv=>absurd hv (Nat.not_lt_zero v),rfl⟩
 case round=>
  obtain⟨j,hj,rfl,hgood,rfl⟩:=hrel;by_cases hlt:j<l.length
  ·have h0:=HC.out j hlt
   have i1:(j:Int)<(l.length:Int):=by omega
   by_cases he:l.getD j 0=x
   ·have HN:=Lib.hid (HT.out j hlt he hgood)
    have hq:=ibeq he.symm;clear HT HF hgood he;generalize l.getD j 0=y at*;go_wp2_with fail;go_ret;exact⟨by rw[HN.out];rfl,rfl⟩
   ·have HN:=Lib.hid (show∀v,v<j+1→l.getD v 0≠x from fun v hv=>by
     by_cases e:v=j
     ·subst e;exact he
     ·exact hgood v (by omega))
    have hq:=ibeq_no (fun e:x=l.getD j 0=>he e.symm);clear HT HF hgood he;generalize l.getD j 0=y at*;go_wp2_with fail;go_roundw
    case rel=>exact⟨j+1,by omega,by go_num,HN.out,trivial⟩
    case measure=>simp[intOf];omega
  ·obtain rfl:j=l.length:=by omega
   have HN:=Lib.hid (HF.out hgood);have i1:¬(l.length:Int)<(l.length:Int):=by omega
   clear HT HF hgood;go_wp2_with fail;go_ret;exact⟨by rw[HN.out];rfl,rfl⟩
theorem cont_any (b off:Nat)(l:List Int)(c:Nat)(x:Int)(w:World)(hm:l.length≤1000)(hc:∀j,j<l.length→w.cell? ⟨b,off+j,none⟩=some (.int .i64 (l.getD j 0))):
 Calls Tryz.prog 68 #[.slice (some ⟨b,off,none⟩) l.length c,.int .i64 x] w fun e w'=>e= .returned (.bool (decide (x∈l)))∧w'=w:=by
 have HI:=Lib.hid (index_any l b off c x w hm hc);have HD:=Lib.hid (idx_ge (l:=l) (x:=x));clear hc;generalize idxI l x=r at*;generalize decide (x∈l)=q at*;go_enter Tryz.func68,Tryz.ntmps68;go_wp2_with fail;refine(HI.out).mono ?_;rintro e wx ⟨rfl,hwx⟩;obtain rfl:=hwx.symm;go_wp2_with fail;go_ret;exact⟨by rw[←HD.out];rfl,rfl⟩
end Go.Proofs.YtfmiioddhpkdkaaGreat.Tp
namespace Go.Proofs.YtfmiioddhpkdkaaGreat.Tp
open Go.RowKit Go.Proofs.YtfmiioddhpkdkaaGreat.Li Go.Proofs.YtfmiioddhpkdkaaGreat.De Go.Proofs.YtfmiioddhpkdkaaGreat.Ara
theorem chk1_any (E:List Int)(g b off c:Nat)(x:Int)(w:World)(hm:E.length≤1000)(hg:w.cell? ⟨g,0,none⟩=some (.slice (some ⟨b,off,none⟩) E.length c))
 (hc:∀j,j<E.length→w.cell? ⟨b,off+j,none⟩=some (.int .i64 (E.getD j 0))):
 Calls Tryz.prog 67 #[.int .i64 x,.pointer (some ⟨g,0,none⟩)] w fun e w'=>e= .returned (.bool (!decide (x∈E)))∧w'=w:=by
 have hC:=cont_any b off E c x w hm hc;have HC:=Lib.hid hC;clear hC hc;generalize decide (x∈E)=r at*;go_enter Tryz.func67,Tryz.ntmps67;go_wp2_with fail;refine(HC.out).mono ?_;rintro e wx ⟨rfl,hwx⟩;obtain rfl:=hwx.symm;go_wp2_with fail;go_ret;exact⟨rfl,rfl⟩
def anyF (f:Int→Bool)(t:List Int):Bool:=t.any f
theorem any_yes {f:Int→Bool}{t:List Int}{j:Nat}(hj:j<t.length)(h:f (t.getD j 0)=true):anyF f t=true:=List.any_eq_true.2 ⟨_,getD_mem hj,h⟩
theorem any_no {f:Int→Bool}{t:List Int}(h:∀v,v<t.length→f (t.getD v 0)=false):anyF f t=false:=by
 unfold anyF;rw[List.any_eq_false];intro x hx;obtain⟨v,hv,e⟩:=mem_getD hx;rw[←e,h v hv];simp
def nin (E:List Int)(x:Int):Bool:= !decide (x∈E)
def lt1 (x:Int):Bool:=decide (x<1)
set_option maxRecDepth 100000 in
theorem ixC_any (E t:List Int)(A:Option Addr)(cap g b off c:Nat)(w:World)(hm:E.length≤1000)(htl:t.length≤1000)(hs:Sl w w.heap.size A (t.flatMap decI))(hg:w.cell? ⟨g,0,none⟩=some (.slice (some ⟨b,off,none⟩) E.length c))
 (hc:∀j,j<E.length→w.cell? ⟨b,off+j,none⟩=some (.int .i64 (E.getD j 0))):
 Calls Tryz.prog 77 #[.slice A t.length cap,.func (.func 67) #[] #[.pointer (some ⟨g,0,none⟩)]] w fun e w'=>(∃i:Int,e= .returned (.int .i64 i)∧decide (0≤i)=anyF (nin E) t)∧w'=w:=by
 have HCL:=Lib.hid (fun x=>chk1_any E g b off c x w hm hg hc);obtain⟨f,hf0⟩:∃f,nin E=f:=⟨_,rfl⟩;have HCL:Hid (∀x,Calls Tryz.prog 67 #[.int .i64 x,.pointer (some ⟨g,0,none⟩)] w fun e w'=>e= .returned (.bool (f x))∧w'=w):=Lib.hid (fun x=>by rw[←hf0];exact HCL.out x);rw[hf0];clear hf0 hg hc;have HT:=Lib.hid (fun j (hj:j<t.length) (h:f (t.getD j 0)=true)=>any_yes hj h);have HF:=Lib.hid (fun h:∀v,v<t.length→f (t.getD v 0)=false=>any_no h);go_enter Tryz.func77,Tryz.ntmps77;go_wp2_with fail;go_loopw [8] (fun i wr=>∃j:Nat,j≤t.length∧i= .int .i64 (j:Int)∧(∀v,v<j→f (t.getD v 0)=false)∧wr=w) (fun i _=>t.length-(intOf i).toNat)
 case atStart=>exact⟨0,Nat.zero_le _,rfl,fun v hv=>absurd hv (Nat.not_lt_zero v),rfl⟩
 case round=>
  obtain⟨j,hj,rfl,hgood,rfl⟩:=hrel;by_cases hlt:j<t.length
  ·obtain⟨b',off',rfl,hbb,hcell⟩:=sl_g hs (by omega)
   have h0:=hcell j hlt;have i1:(j:Int)<(t.length:Int):=by omega
   have HY:=Lib.hid (HT.out j hlt)
   have HGOOD:=Lib.hid (show f (t.getD j 0)=false→∀v,v<j+1→f (t.getD v 0)=false from fun h v hv=>by
    by_cases e:v=j
    ·subst e;exact h
    ·exact hgood v (by omega))
   have hC:=HCL.out (t.getD j 0);clear hcell HT HF hgood hs HCL;generalize t.getD j 0=y at*;cases hf:f y with
   |true=>
    rw[hf]at hC;have HC:=Lib.hid hC;have HN:=Lib.hid (HY.out hf);clear hf hC HY HGOOD;go_wp2_with fail;refine(HC.out).mono ?_;rintro e wx ⟨rfl,hwx⟩;obtain rfl:=hwx.symm;go_wp2_with fail;go_ret;exact⟨⟨(j:Int),rfl,by rw[HN.out];exact decide_eq_true (by omega)⟩,rfl⟩
   |false=>
    rw[hf]at hC;have HC:=Lib.hid hC;have HN:=Lib.hid (HGOOD.out hf);clear hf hC HY HGOOD;go_wp2_with fail;refine(HC.out).mono ?_;rintro e wx ⟨rfl,hwx⟩;obtain rfl:=hwx.symm;go_wp2_with fail;go_roundw
    case rel=>exact⟨j+1,by omega,by go_num,HN.out,trivial⟩
    case measure=>simp[intOf];omega
  ·obtain rfl:j=t.length:=by omega
   have HN:=Lib.hid (HF.out hgood);have i1:¬(t.length:Int)<(t.length:Int):=by omega
   clear HT HF hgood hs HCL;go_wp2_with fail;go_ret;exact⟨⟨-1,rfl,by rw[HN.out];rfl⟩,rfl⟩
set_option maxRecDepth 100000 in
theorem cfC_any (E t:List Int)(A:Option Addr)(cap g b off c:Nat)(w:World)(hm:E.length≤1000)(htl:t.length≤1000)(hs:Sl w w.heap.size A (t.flatMap decI))(hg:w.cell? ⟨g,0,none⟩=some (.slice (some ⟨b,off,none⟩) E.length c))
 (hc:∀j,j<E.length→w.cell? ⟨b,off+j,none⟩=some (.int .i64 (E.getD j 0))):
 Calls Tryz.prog 66 #[.slice A t.length cap,.func (.func 67) #[] #[.pointer (some ⟨g,0,none⟩)]] w fun e w'=>e= .returned (.bool (anyF (nin E) t))∧w'=w:=by
 have HI:=Lib.hid (ixC_any E t A cap g b off c w hm htl hs hg hc);clear hs;go_enter Tryz.func66,Tryz.ntmps66;go_wp2_with fail;refine HI.out.mono ?_;rintro e wx ⟨⟨i,rfl,hi⟩,hwx⟩;obtain rfl:=hwx.symm;by_cases h:0≤i
 ·have HN:=Lib.hid (decide_eq_true h)
  go_wp2_with fail;go_ret;exact⟨by rw[←hi,HN.out];rfl,rfl⟩
 ·have HN:=Lib.hid (decide_eq_false h)
  go_wp2_with fail;go_ret;exact⟨by rw[←hi,HN.out];rfl,rfl⟩
def Bx (w W:World)(x y:Value):Prop:=Below w.heap.size w W∧w.heap.size<W.heap.size∧W.cell? ⟨w.heap.size,0,none⟩=some x∧W.cell? ⟨w.heap.size,1,none⟩=some y
theorem Bx.made (w:World)(x y:Value)(T:TypeId):Bx w (w.alloc (.cells #[x,y] T)) x y:=
 ⟨below_new _ _,by simp,blk_cell (blk_new w (.cells #[x,y] T)) 0 (by simp),blk_cell (blk_new w (.cells #[x,y] T)) 1 (by simp)⟩
theorem Bx.drewN {w W:World}{x y:Value}(h:Bx w W x y)(q:Nat):Bx w (W.drewN q) x y:=⟨below_drewN h.1 q,h.2⟩
theorem Bx.step {w W V:World}{x y:Value}(h:Bx w W x y)(b:Below W.heap.size W V):Bx w V x y:=
 ⟨nx h.1 b,Nat.lt_of_lt_of_le h.2.1 b.size,(b.cell (p:=⟨w.heap.size,0,none⟩) h.2.1).trans h.2.2.1,(b.cell (p:=⟨w.heap.size,1,none⟩) h.2.1).trans h.2.2.2⟩
theorem Bx.sl {w W:World}{x y:Value}(h:Bx w W x y){A:Option Addr}{xs:List Value}(hs:Sl w w.heap.size A xs):Sl W W.heap.size A xs:=(hs.below h.1).more h.1.size
end Go.Proofs.YtfmiioddhpkdkaaGreat.Tp
namespace Go.Proofs.YtfmiioddhpkdkaaGreat.Tp
open Go.RowKit Go.Proofs.YtfmiioddhpkdkaaGreat.Li Go.Proofs.YtfmiioddhpkdkaaGreat.De Go.Proofs.YtfmiioddhpkdkaaGreat.Ara
theorem frame98 {a:Act}(h:a.tmps.size=98)(hd:a.defers=[]):∃u:Nat→Value,a={tmps:= #[u 0,u 1,u 2,u 3,u 4,u 5,u 6,u 7,u 8,u 9,u 10,u 11,u 12,u 13,u 14,u 15,u 16,u 17,u 18,u 19,u 20,u 21,u 22,u 23,u 24,u 25,u 26,u 27,u 28,u 29,u 30,u 31,u 32,u 33,u 34,u 35,u 36,u 37,u 38,u 39,u 40,u 41,u 42,u 43,u 44,u 45,u 46,u 47,u 48,u 49,u 50,u 51,u 52,u 53,u 54,u 55,u 56,u 57,u 58,u 59,u 60,u 61,u 62,u 63,u 64,u 65,u 66,u 67,u 68,u 69,u 70,u 71,u 72,u 73,u 74,u 75,u 76,u 77,u 78,u 79,u 80,u 81,u 82,u 83,u 84,u 85,u 86,u 87,u 88,u 89,u 90,u 91,u 92,u 93,u 94,u 95,u 96,u 97],defers:=[]}∧∀n,a.tmps.getD n undef=u n:=by
 refine⟨fun n=>a.tmps.getD n undef,?_,fun _=>rfl⟩;have h1:=arr_lit a.tmps h;cases a with
 |mk t d=>
  simp only at hd h1;subst hd;congr 1
def RcJ1 (p:List Int)(w W0:World)(a:Act)(W:World):Prop:=
 a.tmps.size=98∧a.defers=[]∧a.tmps.getD 1 undef= .pointer (some ⟨w.heap.size,0,none⟩)∧W=W0∧∃j:Nat,a.tmps.getD 3 undef= .int .i64 (j:Int)∧1≤j∧j≤p.length∧(∀v,v<j→okV p v)
def FirstL (p:List Int)(j F:Nat):Prop:=(F=0∧lvK p j=[])∨(1≤F∧∃a r,lvK p j=a::r∧F=dep p a∧∀v∈lvK p j,dep p v=dep p a∧dep p v≤5)
def RcJ2 (p:List Int)(w W0:World)(a:Act)(W:World):Prop:=
 a.tmps.size=98∧a.defers=[]∧a.tmps.getD 1 undef= .pointer (some ⟨w.heap.size,0,none⟩)∧W=W0∧∃j F:Nat,a.tmps.getD 4 undef= .int .i64 (F:Int)∧a.tmps.getD 5 undef= .int .i64 (j:Int)∧j≤p.length∧F≤p.length∧FirstL p j F
def RcJ3 (p t:List Int)(w W0:World)(a:Act)(W:World):Prop:=
 a.tmps.size=98∧a.defers=[]∧a.tmps.getD 1 undef= .pointer (some ⟨w.heap.size,0,none⟩)∧∃q,W=W0.drewN q∧∃j:Nat,a.tmps.getD 7 undef= .int .i64 (j:Int)∧j≤t.length∧(∀v,v<j→leafP p (t.getD v 0))
theorem lvK_sub {p:List Int}{j:Nat}(hj:j≤p.length){v:Int}(h:v∈lvK p j):v∈lvs p:=by
 rw[mem_lvK]at h;exact mem_lvK.2 ⟨h.1,by omega,h.2.2⟩
theorem first_no {p:List Int}{j F:Nat}(h:FirstL p j F)(hin:(j:Int)∈p):FirstL p (j+1) F:=by
 unfold FirstL at*;rw[lvK_succ,if_pos hin];exact h
theorem first_new {p:List Int}{j:Nat}(hj:j<p.length)(h:FirstL p j 0)(hin:¬(j:Int)∈p)(h5:dep p (j:Int)≤5):FirstL p (j+1) (dep p (j:Int)):=by
 unfold FirstL at*;rw[lvK_succ,if_neg hin];rcases h with⟨_,h⟩|⟨h,_⟩
 ·right
  rw[h]
  exact⟨dep_pos hj,(j:Int),[],rfl,rfl,fun v hv=>by
   rw[List.nil_append,List.mem_singleton]at hv;rw[hv];exact⟨rfl,h5⟩⟩
 ·omega
theorem first_old {p:List Int}{j F:Nat}(h:FirstL p j F)(hF:F≠0)(hin:¬(j:Int)∈p)(he:dep p (j:Int)=F)(h5:F≤5):FirstL p (j+1) F:=by
 unfold FirstL at*;rw[lvK_succ,if_neg hin];rcases h with⟨h,_⟩|⟨h1,a,r,h2,h3,h4⟩
 ·exact absurd h hF
 ·right
  refine⟨h1,a,r++ [(j:Int)],by rw[h2];rfl,h3,fun v hv=> ?_⟩;rcases List.mem_append.1 hv with hv|hv
  ·exact h4 v hv
  ·rw[List.mem_singleton]at hv
   subst hv;omega
theorem first_deep {p:List Int}{j:Nat}(hj:j<p.length)(hin:¬(j:Int)∈p)(h5:5<dep p (j:Int)):¬flatP p:=by
 intro hf;have hm:(j:Int)∈lvs p:=mem_lvs.2 ⟨by omega,by omega,hin⟩;have:=(hf _ hm _ hm).2;omega
theorem first_bad {p:List Int}{j F:Nat}(hj:j<p.length)(h:FirstL p j F)(hF:F≠0)(hin:¬(j:Int)∈p)(he:dep p (j:Int)≠F):¬flatP p:=by
 intro hf;have hm:(j:Int)∈lvs p:=mem_lvs.2 ⟨by omega,by omega,hin⟩;unfold FirstL at h;rcases h with⟨h,_⟩|⟨h1,a,r,h2,h3,h4⟩
 ·exact hF h
 ·have ha:a∈lvs p:=lvK_sub (Nat.le_of_lt hj) (by rw[h2];simp)
  have:=(hf _ hm _ ha).1;omega
theorem first_end {p:List Int}{F:Nat}(h:FirstL p p.length F):flatP p:=by
 unfold FirstL at h;rcases h with⟨_,h⟩|⟨h1,a,r,h2,h3,h4⟩
 ·intro v hv
  unfold lvs at hv;rw[h]at hv;cases hv
 ·exact(flat_head h2).2 h4
set_option maxRecDepth 100000 in
set_option maxHeartbeats 8000000 in
theorem rcheck_any (p t:List Int)(A B:Option Addr)(c d:Nat)(w:World)(hp:p.length≤100000)(htl:t.length≤100000)(hs:Sl w w.heap.size A (p.flatMap decI))(ht:Sl w w.heap.size B (t.flatMap decI)):
 Calls Tryz.prog 19 #[(.agg #[.slice A p.length c,.slice B t.length d])] w fun e w'=>e= .returned (.int .i64 (chk p t))∧Below w.heap.size w w':=by
 by_cases k1:p.length<1
 ·have i1:(p.length:Int)<1:=by omega
  have HN:=Lib.hid (chk_many (p:=p) (t:=t) (.inl k1));go_enter Tryz.func19,Tryz.ntmps19;go_upto_region 1 with fail;have HX:=Lib.hid (Bx.made w (.slice A p.length c) (.slice B t.length d) 24);generalize w.alloc (.cells #[.slice A p.length c,.slice B t.length d] 24)=W0 at*;have c0:=HX.out.2.2.1;have c1:=HX.out.2.2.2;have SP:=Lib.hid (HX.out.sl hs);have ST:=Lib.hid (HX.out.sl ht);go_wp2_with fail;go_ret;exact⟨by rw[HN.out];rfl,HX.out.1⟩
 have i1:¬(p.length:Int)<1:=by omega
 by_cases k2:32<p.length
 ·have i2:(32:Int)<(p.length:Int):=by omega
  have HN:=Lib.hid (chk_many (p:=p) (t:=t) (.inr (.inl k2)));go_enter Tryz.func19,Tryz.ntmps19;go_upto_region 1 with fail;have HX:=Lib.hid (Bx.made w (.slice A p.length c) (.slice B t.length d) 24);generalize w.alloc (.cells #[.slice A p.length c,.slice B t.length d] 24)=W0 at*;have c0:=HX.out.2.2.1;have c1:=HX.out.2.2.2;have SP:=Lib.hid (HX.out.sl hs);have ST:=Lib.hid (HX.out.sl ht);go_wp2_with fail;go_ret;exact⟨by rw[HN.out];rfl,HX.out.1⟩
 have i2:¬(32:Int)<(p.length:Int):=by omega
 by_cases k3:t.length<1
 ·have i3:(t.length:Int)<1:=by omega
  have HN:=Lib.hid (chk_many (p:=p) (t:=t) (.inr (.inr (.inl k3))));go_enter Tryz.func19,Tryz.ntmps19;go_upto_region 1 with fail;have HX:=Lib.hid (Bx.made w (.slice A p.length c) (.slice B t.length d) 24);generalize w.alloc (.cells #[.slice A p.length c,.slice B t.length d] 24)=W0 at*;have c0:=HX.out.2.2.1;have c1:=HX.out.2.2.2;have SP:=Lib.hid (HX.out.sl hs);have ST:=Lib.hid (HX.out.sl ht);go_wp2_with fail;go_ret;exact⟨by rw[HN.out];rfl,HX.out.1⟩
 have i3:¬(t.length:Int)<1:=by omega
 by_cases k4:32<t.length
 ·have i4:(32:Int)<(t.length:Int):=by omega
  have HN:=Lib.hid (chk_many (p:=p) (t:=t) (.inr (.inr (.inr k4))));go_enter Tryz.func19,Tryz.ntmps19;go_upto_region 1 with fail;have HX:=Lib.hid (Bx.made w (.slice A p.length c) (.slice B t.length d) 24);generalize w.alloc (.cells #[.slice A p.length c,.slice B t.length d] 24)=W0 at*;have c0:=HX.out.2.2.1;have c1:=HX.out.2.2.2;have SP:=Lib.hid (HX.out.sl hs);have ST:=Lib.hid (HX.out.sl ht);go_wp2_with fail;go_ret;exact⟨by rw[HN.out];rfl,HX.out.1⟩
 have i4:¬(32:Int)<(t.length:Int):=by omega
 have hno:¬manyP p t:=by unfold manyP;omega
 have HTR:=Lib.hid (fun h=>chk_tree (p:=p) (t:=t) hno h);have HFT:=Lib.hid (fun h1 h2=>chk_fit (p:=p) (t:=t) hno h1 h2);have HLF:=Lib.hid (fun v W h=>leaf_any p A c v W (by omega) h);have HDP:=Lib.hid (fun v W h=>deep_any p A c v W (by omega) h);have hdl:=Lib.hid (fun v=>dep_le p v);clear hno;go_enter Tryz.func19,Tryz.ntmps19;go_upto_region 1 with fail;have HX:=Lib.hid (Bx.made w (.slice A p.length c) (.slice B t.length d) 24);generalize w.alloc (.cells #[.slice A p.length c,.slice B t.length d] 24)=W0 at*;have c0:=HX.out.2.2.1;have c1:=HX.out.2.2.2;have SP:=Lib.hid (HX.out.sl hs);have ST:=Lib.hid (HX.out.sl ht);obtain⟨b,off,hA,hb,hcell⟩:=sl_g SP.out (by omega);have HC:=Lib.hid hcell;have h0:=hcell 0 (by omega);rw[Nat.add_zero]at h0;clear hcell hs ht;have HA:=Lib.hid hA;subst hA;by_cases z:p.getD 0 0= -1
 ·have HZ:=Lib.hid (show okV p 0 from(okV_zero rfl).2 z)
  have q0:=ibne_no z;generalize p.getD 0 0=y at*;go_wp2_with fail;clear z h0 q0;refine wp_loop (RcJ1 p w W0) (fun a' _=>p.length-(intOf (a'.tmps.getD 3 undef)).toNat) ?_ ?_
  ·exact⟨rfl,rfl,rfl,rfl,1,rfl,Nat.le_refl _,by omega,fun v hv=>by rw[show v=0 by omega];exact HZ.out⟩
  ·rintro a' W ⟨hsz,hdf,s1,hW,j,s3,hj1,hj,hgood⟩
   subst hW;obtain⟨u,rfl,hu⟩:=frame98 hsz hdf;rw[hu]at s1 s3;simp only[s1,s3];clear hsz hdf s1 s3 hu;by_cases hlt:j<p.length
   ·have h0:=HC.out j hlt
    have i5:(j:Int)<(p.length:Int):=by omega
    have HBAD:=Lib.hid (fun h:¬okV p j=>HTR.out (.inl fun ht=>h ((tree_iff p).1 ht j hlt)))
    have HGOOD:=Lib.hid (show okV p j→∀v,v<j+1→okV p v from fun h v hv=>by
     by_cases e:v=j
     ·subst e;exact h
     ·exact hgood v (by omega))
    rw[okV_pos (by omega)]at HBAD HGOOD;generalize p.getD j 0=x at*;clear hgood;by_cases h1:x<0
    ·have HN:=Lib.hid (HBAD.out (by omega))
     go_wp2_with fail;go_ret;exact⟨by rw[HN.out];rfl,HX.out.1⟩
    ·by_cases h3:(j:Int)≤x
     ·have HN:=Lib.hid (HBAD.out (by omega))
      go_wp2_with fail;go_ret;exact⟨by rw[HN.out];rfl,HX.out.1⟩
     ·have HN:=Lib.hid (HGOOD.out (by omega))
      go_wp2_with fail;go_roundw
      case rel=>exact⟨rfl,rfl,rfl,rfl,j+1,by go_num,by omega,by omega,HN.out⟩
      case measure=>simp[intOf];omega
   ·obtain rfl:j=p.length:=by omega
    have HT:=Lib.hid ((tree_iff p).2 hgood);have i5:¬(p.length:Int)<(p.length:Int):=by omega
    clear hgood;go_wp2_with fail;refine wp_loop (RcJ2 p w W) (fun a' _=>p.length-(intOf (a'.tmps.getD 5 undef)).toNat) ?_ ?_
    ·exact⟨rfl,rfl,rfl,rfl,0,0,rfl,rfl,Nat.zero_le _,Nat.zero_le _,.inl ⟨rfl,rfl⟩⟩
    ·rintro a' W2 ⟨hsz,hdf,s1,hW,j,F,s4,s5,hj,hF,hfl⟩
     subst hW;obtain⟨u,rfl,hu⟩:=frame98 hsz hdf;rw[hu]at s1 s4 s5;simp only[s1,s4,s5];clear hsz hdf s1 s4 s5 hu;have HFL:=Lib.hid hfl;clear hfl;by_cases hlt:j<p.length
     ·have i5:(j:Int)<(p.length:Int):=by omega
      have hL:=HLF.out (j:Int) W2 SP.out;by_cases hin:(j:Int)∈p
      ·have hd:decide (leafP p (j:Int))=false:=decide_eq_false (fun h=>h.2.2 hin)
       rw[hd]at hL;clear hd;have HL:=Lib.hid hL;have HN:=Lib.hid (first_no HFL.out hin);clear hL hin;go_wp2_with fail;refine(HL.out).mono ?_;rintro e wx ⟨rfl,hwx⟩;obtain rfl:=hwx.symm;go_wp2_with fail;go_roundw
       case rel=>exact⟨rfl,rfl,rfl,rfl,j+1,F,rfl,by go_num,by omega,hF,HN.out⟩
       case measure=>simp[intOf];omega
      ·have hd:decide (leafP p (j:Int))=true:=decide_eq_true ⟨by omega,by omega,hin⟩
       rw[hd]at hL;clear hd;have HL:=Lib.hid hL;have HD:=Lib.hid (HDP.out (j:Int) W2 SP.out);have hdd:=hdl.out (j:Int);have HN1:=Lib.hid (fun h=>first_new hlt h hin);have HN2:=Lib.hid (fun h1 h2 h3=>first_old HFL.out h1 hin h2 h3);have HN3:=Lib.hid (fun h=>HTR.out (.inr (first_deep hlt hin h)));have HN4:=Lib.hid (fun h1 h2=>HTR.out (.inr (first_bad hlt HFL.out h1 hin h2)));clear hL hin;generalize dep p (j:Int)=D at*;by_cases hF0:F=0
       ·subst hF0
        have e0:(((0:Nat):Int)==0)=true:=rfl;have e1:((D:Int) !=(D:Int))=false:=ibne_no rfl;by_cases h5:D≤5
        ·have HN:=Lib.hid (HN1.out HFL.out h5)
         go_wp2_with fail;refine(HL.out).mono ?_;rintro e wx ⟨rfl,hwx⟩;obtain rfl:=hwx.symm;go_wp2_with fail;refine(HD.out).mono ?_;rintro e wx ⟨rfl,hwx⟩;obtain rfl:=hwx.symm;go_wp2_with fail;go_roundw
         case rel=>exact⟨rfl,rfl,rfl,rfl,j+1,D,rfl,by go_num,by omega,hdd,HN.out⟩
         case measure=>simp[intOf];omega
        ·have HN:=Lib.hid (HN3.out (by omega))
         go_wp2_with fail;refine(HL.out).mono ?_;rintro e wx ⟨rfl,hwx⟩;obtain rfl:=hwx.symm;go_wp2_with fail;refine(HD.out).mono ?_;rintro e wx ⟨rfl,hwx⟩;obtain rfl:=hwx.symm;go_wp2_with fail;go_ret;exact⟨by rw[HN.out];rfl,HX.out.1⟩
       ·have e0:((F:Int)==0)=false:=ibeq_no (by omega)
        by_cases he:D=F
        ·have e1:((D:Int) !=(F:Int))=false:=nbne_no he
         by_cases h5:D≤5
         ·have HN:=Lib.hid (HN2.out hF0 he (by omega))
          go_wp2_with fail;refine(HL.out).mono ?_;rintro e wx ⟨rfl,hwx⟩;obtain rfl:=hwx.symm;go_wp2_with fail;refine(HD.out).mono ?_;rintro e wx ⟨rfl,hwx⟩;obtain rfl:=hwx.symm;go_wp2_with fail;go_roundw
          case rel=>exact⟨rfl,rfl,rfl,rfl,j+1,F,rfl,by go_num,by omega,hF,HN.out⟩
          case measure=>simp[intOf];omega
         ·have HN:=Lib.hid (HN3.out (by omega))
          go_wp2_with fail;refine(HL.out).mono ?_;rintro e wx ⟨rfl,hwx⟩;obtain rfl:=hwx.symm;go_wp2_with fail;refine(HD.out).mono ?_;rintro e wx ⟨rfl,hwx⟩;obtain rfl:=hwx.symm;go_wp2_with fail;go_ret;exact⟨by rw[HN.out];rfl,HX.out.1⟩
        ·have e1:((D:Int) !=(F:Int))=true:=nbne he
         have HN:=Lib.hid (HN4.out hF0 he);go_wp2_with fail;refine(HL.out).mono ?_;rintro e wx ⟨rfl,hwx⟩;obtain rfl:=hwx.symm;go_wp2_with fail;refine(HD.out).mono ?_;rintro e wx ⟨rfl,hwx⟩;obtain rfl:=hwx.symm;go_wp2_with fail;go_ret;exact⟨by rw[HN.out];rfl,HX.out.1⟩
     ·obtain rfl:j=p.length:=by omega
      have HFIT:=Lib.hid (HFT.out HT.out (first_end HFL.out));have i5:¬(p.length:Int)<(p.length:Int):=by omega
      clear HFL hdl HDP;go_wp2_with fail;refine wp_loop (RcJ3 p t w W2) (fun a' _=>t.length-(intOf (a'.tmps.getD 7 undef)).toNat) ?_ ?_
      ·exact⟨rfl,rfl,rfl,0,rfl,0,rfl,Nat.zero_le _,fun v hv=>absurd hv (Nat.not_lt_zero v)⟩
      ·rintro a' W3 ⟨hsz,hdf,s1,qd,hW,j,s7,hj,hgood⟩
       have HX3:Hid (Bx w W3 (.slice (some ⟨b,off,none⟩) p.length c) (.slice B t.length d)):=Lib.hid (by rw[hW];exact HX.out.drewN qd);have SP3:Hid (Sl W3 W3.heap.size (some ⟨b,off,none⟩) (p.flatMap decI)):=Lib.hid (by rw[hW];exact SP.out);have ST3:Hid (Sl W3 W3.heap.size B (t.flatMap decI)):=Lib.hid (by rw[hW];exact ST.out);have HW:=Lib.hid hW;clear hW c0 c1;obtain⟨u,rfl,hu⟩:=frame98 hsz hdf;rw[hu]at s1 s7;simp only[s1,s7];clear hsz hdf s1 s7 hu;have c0:=HX3.out.2.2.1;have c1:=HX3.out.2.2.2;by_cases hlt:j<t.length
       ·obtain⟨b2,off2,hB,hb2,hcell2⟩:=sl_g ST3.out (by omega)
        subst hB;have h0:=hcell2 j hlt;have i6:(j:Int)<(t.length:Int):=by omega
        have hL:=HLF.out (t.getD j 0)
        have HN1:=Lib.hid (show leafP p (t.getD j 0)→∀v,v<j+1→leafP p (t.getD v 0) from fun h v hv=>by
         by_cases e:v=j
         ·subst e;exact h
         ·exact hgood v (by omega))
        have HN2:=Lib.hid (show¬leafP p (t.getD j 0)→chk p t=4 from fun h=>by
         rw[HFIT.out,if_neg (fun hh=>h (hh _ (getD_mem hlt)))])
        clear hcell2 hgood;generalize t.getD j 0=x at*;by_cases hl:leafP p x
        ·rw[decide_eq_true hl]at hL
         have HL:=Lib.hid hL;have HN:=Lib.hid (HN1.out hl);clear hL hl HN1 HN2;go_wp2_with fail;go_quiet((go_at_call 40;exact Calls.quiet_of_same (HL.out _ SP3.out)));go_wp2_with fail;go_roundw
         case rel=>exact⟨rfl,rfl,rfl,_,by rw[HW.out,World.drewN_drewN],j+1,by go_num,by omega,HN.out⟩
         case measure=>simp[intOf];omega
        ·rw[decide_eq_false hl]at hL
         have HL:=Lib.hid hL;have HN:=Lib.hid (HN2.out hl);clear hL hl HN1 HN2;go_wp2_with fail;go_quiet((go_at_call 40;exact Calls.quiet_of_same (HL.out _ SP3.out)));go_wp2_with fail;go_ret;exact⟨by rw[HN.out];rfl,below_drewN HX3.out.1 _⟩
       ·obtain rfl:j=t.length:=by omega
        have HN:=Lib.hid (show chk p t=0 by
         rw[HFIT.out,if_pos];intro x hx;obtain⟨v,hv,e⟩:=mem_getD hx;rw[←e];exact hgood v hv)
        have i6:¬(t.length:Int)<(t.length:Int):=by omega
        clear hgood;go_wp2_with fail;go_ret;exact⟨by rw[HN.out];rfl,HX3.out.1⟩
 ·have HN:=Lib.hid (HTR.out (.inl fun ht=>z (by have:=(tree_iff p).1 ht 0 (by omega);rwa [okV_zero rfl]at this)))
  have q0:=ibne z;generalize p.getD 0 0=y at*;clear z;go_wp2_with fail;go_ret;exact⟨by rw[HN.out];rfl,HX.out.1⟩
end Go.Proofs.YtfmiioddhpkdkaaGreat.Tp
namespace Go.Proofs.YtfmiioddhpkdkaaGreat
open Go.RowKit
theorem take_to {P:Program}{md:Region.Mode}{ops:Array Oper}{Q:Exit→Act→World→Prop}{S:World→Prop}(i:Nat)(d:Option Tmp){oi:Oper}{v:Value}{fuel:Nat}{listed:Array Bool}{a:Act}{w:World}(hi:ops[i]? =some oi)(hd:oi.dst=d)
 (hs:Region.noSelect ops=true) (hf:Region.free md ops listed i=true) (hr:(Region.ready md ops listed).contains i=true)
 (hQ:∀c a w,Q (.panic c) (a.put d v) w→Q (.panic c) a w) (hy:YieldsIf P ops S oi v a) (hS:S w)
 (h:wpAnyH P md ops Q S fuel (listed.setIfInBounds i true) (a.put d v) w):wpAnyH P md ops Q S (fuel+1) listed a w:=by
 subst hd;exact wpAnyH_take hi hs hf hr hQ hy hS h
end Go.Proofs.YtfmiioddhpkdkaaGreat
