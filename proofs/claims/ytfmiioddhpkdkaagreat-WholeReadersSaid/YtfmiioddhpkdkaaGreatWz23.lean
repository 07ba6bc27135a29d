/- Merged texts: Lk2, Lo1, Lo2, SpP, Wf1, Wf2, Wf3. -/
import Derived.Test.YtfmiioddhpkdkaaGreatWz22
import Derived.Test.YtfmiioddhpkdkaaGreatOpen
set_option linter.unusedVariables false
set_option linter.unusedSimpArgs false
set_option maxRecDepth 100000
set_option maxHeartbeats 8000000
namespace Go.Proofs.YtfmiioddhpkdkaaGreat.Lk
open Go.RowKit Ara Lok Ga
def shK (kind:Int):Bool:=decide (11≤kind)&&decide (kind≤13)
theorem shares_any (kind:Int)(w:World):Calls Tryz.prog 32 #[.int .i64 kind] w fun e w'=>e= .returned (.bool (shK kind))∧w'=w:=by
 unfold shK;by_cases h1:11≤kind
 ·by_cases h2:kind≤13
  ·have h3:(decide (11≤kind)&&decide (kind≤13))=true:=by simp[h1,h2]
   rw[h3];clear h3;go_enter Tryz.func32,Tryz.ntmps32;go_wp2_with fail;go_ret;exact⟨rfl,rfl⟩
  ·have h3:(decide (11≤kind)&&decide (kind≤13))=false:=by simp[h2]
   rw[h3];clear h3;go_enter Tryz.func32,Tryz.ntmps32;go_wp2_with fail;go_ret;exact⟨rfl,rfl⟩
 ·have h3:(decide (11≤kind)&&decide (kind≤13))=false:=by simp[h1]
  rw[h3];clear h3;go_enter Tryz.func32,Tryz.ntmps32;go_wp2_with fail;go_ret;exact⟨rfl,rfl⟩
section
variable(gl:Nat)(kind T:Int)(Ty:TypeId)(v:Value)(w:World)(H:LkB w gl kind T Ty v)
include H
variable(F:FuncId)(r:Value)(hc:∀a W,(callFunc F a).run Tryz.prog W= .ok (.enter F a) W)
theorem Spot_gen (hc:∀a W,(callFunc F a).run Tryz.prog W= .ok (.enter F a) W)(hm:∀W,(method 456 Ty v "Spot").run Tryz.prog W= .ok (F,r) W)(i:Int)(h0:0≤i)(h1:i<T)(s:Sp)(HC:∀W,Below w.heap.size w W→Calls Tryz.prog F #[r,.int .i64 i] W fun e w'=>e= .returned (vSp s)∧Below W.heap.size W w'):
 Calls Tryz.prog 61 #[.pointer (some ⟨gl,0,none⟩),.int .i64 i] w fun e w'=>e= .returned (vSp s)∧Below w.heap.size w w':=by
 have hb:=below_new w (.cells #[.int .i64 0,.int .i64 0,.int .i64 0,.int .i64 0] 134);have hx:=blk_new w (.cells #[.int .i64 0,.int .i64 0,.int .i64 0,.int .i64 0] 134);have HB:=Lib.hid hb;have HX:=Lib.hid hx;have H1:=LkB.same H hb;have HH:=Lib.hid (has_in gl kind T Ty v _ H1 i h0 h1);replace HC:=Lib.hid (HC _ hb);have c0:=blk_cell H1 0 (by simp);have c1:=blk_cell H1 1 (by simp);have c2:=blk_cell H1 2 (by simp);simp at c0 c1 c2;clear H H1 hb hx;go_enter Tryz.func61,Tryz.ntmps61;go_wp2_with fail;refine(HH.out).mono ?_;rintro e wx ⟨rfl,hwx⟩;obtain rfl:=hwx.symm;go_wp2_with fail;refine HC.out.mono ?_;rintro e w2 ⟨rfl,h2⟩;have hs2:=h2.size;have HX2:=Lib.hid ((Mod.of_below (S:=[]) h2).blk HX.out (by simp));have HB2:=Lib.hid (HB.out.trans (h2.mono HB.out.size));clear HX HB HC HH c0 c1 c2 h2;unfold vSp;obtain⟨sa,sb,sc,sd⟩:=s;have d0:=blk_cell HX2.out 0 (by simp);have d1:=blk_cell HX2.out 1 (by simp);have d2:=blk_cell HX2.out 2 (by simp);have d3:=blk_cell HX2.out 3 (by simp);simp only[List.getElem_toArray,List.getElem_cons_zero,List.getElem_cons_succ]at d0 d1 d2 d3;have f0:=blk_free HX2.out 0;have f1:=blk_free HX2.out 1;have f2:=blk_free HX2.out 2;have f3:=blk_free HX2.out 3;have k0:=blk_set HX2.out 0 (.int .i64 sa);have k1:=blk_set k0 1 (.int .i64 sb);have k2:=blk_set k1 2 (.int .i64 sc);have k3:=blk_set k2 3 (.int .i64 sd);have g0:=blk_cell k0 0 (by simp);have g1:=blk_cell k1 1 (by simp);have g2:=blk_cell k2 2 (by simp);have g3:=blk_cell k3 3 (by simp);simp at g0 g1 g2 g3;clear k0 k1 k2 k3;go_wp2_with fail;refine bodyPost_ret (v:= .agg #[.int .i64 sa,.int .i64 sb,.int .i64 sc,.int .i64 sd]) ?_ rfl ⟨rfl,?_⟩
 ·simp[results,Tryz.results61,go_sem,g0,g1,g2,g3]
 ·exact(((HB2.out.setCell (Nat.le_refl _) _).setCell (Nat.le_refl _) _).setCell (Nat.le_refl _) _).setCell (Nat.le_refl _) _
end
section
variable(gl:Nat)(w:World)(i:Int)(s:Sp)(HC:∀W,Below w.heap.size w W→Calls Tryz.prog 61 #[.pointer (some ⟨gl,0,none⟩),.int .i64 i] W fun e w'=>e= .returned (vSp s)∧Below W.heap.size W w')
include HC
theorem State_gen:Calls Tryz.prog 43 #[.pointer (some ⟨gl,0,none⟩),.int .i64 i] w fun e w'=>e= .returned (.int .i64 (gst s))∧Below w.heap.size w w':=by
 have hf:=fun a b c d W=>sfld a b c d W;have HS:=Lib.hid (HC _ (Below.refl _ _));unfold gst;clear HC;unfold vSp at HS;by_cases h0:s.pc=0
 ·rw[if_pos h0]
  go_enter Tryz.func43,Tryz.ntmps43;go_wp2_with fail;refine HS.out.mono ?_;rintro e w2 ⟨rfl,h2⟩;have h2:=Lib.hid h2;go_wp2_with fail;go_ret;exact⟨rfl,h2.out⟩
 rw[if_neg h0];have e0:=ibeq_no h0;by_cases h1:s.pc<10
 ·rw[if_pos h1]
  go_enter Tryz.func43,Tryz.ntmps43;go_wp2_with fail;refine HS.out.mono ?_;rintro e w2 ⟨rfl,h2⟩;have h2:=Lib.hid h2;go_wp2_with fail;go_ret;exact⟨rfl,h2.out⟩
 rw[if_neg h1];by_cases h2:s.pc=10
 ·rw[if_pos h2]
  have e1:=ibeq h2;go_enter Tryz.func43,Tryz.ntmps43;go_wp2_with fail;refine HS.out.mono ?_;rintro e w2 ⟨rfl,h2⟩;have h2:=Lib.hid h2;go_wp2_with fail;go_ret;exact⟨rfl,h2.out⟩
 rw[if_neg h2];have e1:=ibeq_no h2;go_enter Tryz.func43,Tryz.ntmps43;go_wp2_with fail;refine HS.out.mono ?_;rintro e w2 ⟨rfl,h2⟩;have h2:=Lib.hid h2;go_wp2_with fail;go_ret;exact⟨rfl,h2.out⟩
end
def rdS (kind:Int)(s:Sp):Bool:=decide (s.pc≠0)&&shK kind&&decide (s.a=1)
theorem gst_no {s:Sp}(h:¬s.pc=0):¬gst s=0:=by unfold gst;rw[if_neg h];repeat(first|split|omega)
section
variable(gl:Nat)(kind T:Int)(Ty:TypeId)(v:Value)(w:World)(H:LkB w gl kind T Ty v)(i:Int)(s:Sp)(HC:∀W,Below w.heap.size w W→Calls Tryz.prog 61 #[.pointer (some ⟨gl,0,none⟩),.int .i64 i] W fun e w'=>e= .returned (vSp s)∧Below W.heap.size W w')
include H HC
theorem Reads_gen:Calls Tryz.prog 44 #[.pointer (some ⟨gl,0,none⟩),.int .i64 i] w fun e w'=>e= .returned (.bool (rdS kind s))∧Below w.heap.size w w':=by
 have hf:=fun a b c d W=>sfld1 a b c d W;have HS:=Lib.hid (State_gen gl w i s HC);have HQ:=Lib.hid HC;have HL:=Lib.hid H;clear H HC;unfold rdS;by_cases h0:s.pc=0
 ·have hg:gst s=0:=by unfold gst;rw[if_pos h0]
  have hr:(decide (s.pc≠0)&&shK kind&&decide (s.a=1))=false:=by simp[h0]
  rw[hr];rw[hg]at HS;clear hg hr h0;go_enter Tryz.func44,Tryz.ntmps44;go_wp2_with fail;refine HS.out.mono ?_;rintro e w2 ⟨rfl,h2⟩;have h2:=Lib.hid h2;go_wp2_with fail;go_ret;exact⟨rfl,h2.out⟩
 have hg:=gst_no h0;have h1:decide (s.pc≠0)=true:=decide_eq_true h0;rw[h1];clear h0 h1;generalize gst s=g at*;have e0:=ibne hg;by_cases hk:shK kind=true
 ·rw[hk]
  unfold vSp at HQ;by_cases ha:s.a=1
  ·have hr:(true&&true&&decide (s.a=1))=true:=by simp[ha]
   rw[hr];have e1:=ibeq ha;clear hr;go_enter Tryz.func44,Tryz.ntmps44;go_wp2_with fail;refine HS.out.mono ?_;rintro e w2 ⟨rfl,h2⟩;have HL2:=HL.out.same h2;have c0:=blk_cell HL2 0 (by simp);simp at c0;have h2:=Lib.hid h2;have HSp:=Lib.hid (HQ.out _ h2.out);clear HL2;go_wp2_with fail;refine(shares_any kind _).mono ?_;rintro e wx ⟨rfl,hwx⟩;obtain rfl:=hwx.symm;rw[hk];go_wp2_with fail;refine HSp.out.mono ?_;rintro e w3 ⟨rfl,h3⟩;have h3:=Lib.hid (h2.out.trans (h3.mono h2.out.size));go_wp2_with fail;go_ret;exact⟨rfl,h3.out⟩
  ·have hr:(true&&true&&decide (s.a=1))=false:=by simp[ha]
   rw[hr];have e1:=ibeq_no ha;clear hr;go_enter Tryz.func44,Tryz.ntmps44;go_wp2_with fail;refine HS.out.mono ?_;rintro e w2 ⟨rfl,h2⟩;have HL2:=HL.out.same h2;have c0:=blk_cell HL2 0 (by simp);simp at c0;have h2:=Lib.hid h2;have HSp:=Lib.hid (HQ.out _ h2.out);clear HL2;go_wp2_with fail;refine(shares_any kind _).mono ?_;rintro e wx ⟨rfl,hwx⟩;obtain rfl:=hwx.symm;rw[hk];go_wp2_with fail;refine HSp.out.mono ?_;rintro e w3 ⟨rfl,h3⟩;have h3:=Lib.hid (h2.out.trans (h3.mono h2.out.size));go_wp2_with fail;go_ret;exact⟨rfl,h3.out⟩
 ·have hk:shK kind=false:=by simpa using hk
  rw[hk];have hr:(true&&false&&decide (s.a=1))=false:=by simp
  rw[hr];clear hr;go_enter Tryz.func44,Tryz.ntmps44;go_wp2_with fail;refine HS.out.mono ?_;rintro e w2 ⟨rfl,h2⟩;have HL2:=HL.out.same h2;have c0:=blk_cell HL2 0 (by simp);simp at c0;have h2:=Lib.hid h2;clear HL2;go_wp2_with fail;refine(shares_any kind _).mono ?_;rintro e wx ⟨rfl,hwx⟩;obtain rfl:=hwx.symm;rw[hk];go_wp2_with fail;go_ret;exact⟨rfl,h2.out⟩
end
end Go.Proofs.YtfmiioddhpkdkaaGreat.Lk
namespace Go.Proofs.YtfmiioddhpkdkaaGreat.Lk
open Go.RowKit Ara
theorem name_6 (w:World):Calls Tryz.prog 56 #[.int .i64 6] w fun e w'=>e= .returned (.string ⟨#[99,111,104,111,114,116]⟩)∧Below w.heap.size w w':=by
 go_enter Tryz.func56,Tryz.ntmps56;go_wp2_with fail;go_ret;exact⟨rfl,below_new _ _⟩
theorem name_11 (w:World):Calls Tryz.prog 56 #[.int .i64 11] w fun e w'=>e= .returned (.string ⟨#[110,101,117,116,114,97,108]⟩)∧Below w.heap.size w w':=by
 go_enter Tryz.func56,Tryz.ntmps56;go_wp2_with fail;go_ret;exact⟨rfl,below_new _ _⟩
theorem name_12 (w:World):Calls Tryz.prog 56 #[.int .i64 12] w fun e w'=>e= .returned (.string ⟨#[114,101,97,100,101,114,115]⟩)∧Below w.heap.size w w':=by
 go_enter Tryz.func56,Tryz.ntmps56;go_wp2_with fail;go_ret;exact⟨rfl,below_new _ _⟩
theorem name_13 (w:World):Calls Tryz.prog 56 #[.int .i64 13] w fun e w'=>e= .returned (.string ⟨#[119,114,105,116,101,114,115]⟩)∧Below w.heap.size w w':=by
 go_enter Tryz.func56,Tryz.ntmps56;go_wp2_with fail;go_ret;exact⟨rfl,below_new _ _⟩
end Go.Proofs.YtfmiioddhpkdkaaGreat.Lk
namespace Go.Proofs.YtfmiioddhpkdkaaGreat.Lk
open Go.RowKit Ara Tp
theorem neq_6:(ByteArray.toList ⟨#[99,111,104,111,114,116]⟩).isEmpty=false:=by kernel_rfl
theorem neq_11:(ByteArray.toList ⟨#[110,101,117,116,114,97,108]⟩).isEmpty=false:=by kernel_rfl
theorem neq_12:(ByteArray.toList ⟨#[114,101,97,100,101,114,115]⟩).isEmpty=false:=by kernel_rfl
theorem neq_13:(ByteArray.toList ⟨#[119,114,105,116,101,114,115]⟩).isEmpty=false:=by kernel_rfl
def Named (kind:Int):Prop:=∃nm:ByteArray,nm.toList.isEmpty=false∧∀W,Calls Tryz.prog 56 #[.int .i64 kind] W fun e w'=>e= .returned (.string nm)∧Below W.heap.size W w'
theorem named_6:Named 6:=⟨_,neq_6,name_6⟩
theorem named_11:Named 11:=⟨_,neq_11,name_11⟩
theorem named_12:Named 12:=⟨_,neq_12,name_12⟩
theorem named_13:Named 13:=⟨_,neq_13,name_13⟩
theorem lnew_gen (p t:List Int)(A B:Option Addr)(c d:Nat)(w:World)(hck:chk p t=0)(hs:Sl w w.heap.size A (p.flatMap decI))(ht:Sl w w.heap.size B (t.flatMap decI))(kind:Int)(hnm:Named kind)(ga:Nat)(kg kl par bud:Int)(Q:Nat→World→World→Prop)
 (HM:∀gl W,w.heap.size≤gl→Below w.heap.size w W→W.heap[gl]? =some (.cells #[.int .i64 kind,.int .i64 (t.length:Int),.nilIface] 115 (0,0))→Calls Tryz.prog 58 #[.pointer (some ⟨gl,0,none⟩),.pointer (some ⟨ga,0,none⟩),(.agg #[.slice A p.length c,.slice B t.length d]),(.agg #[.int .i64 kg,.int .i64 kl,.int .i64 par,.int .i64 bud])] W fun e w'=>e= .returned (.int .i64 0)∧Q gl W w'):
 Calls Tryz.prog 38 #[.pointer (some ⟨ga,0,none⟩),(.agg #[.slice A p.length c,.slice B t.length d]),(.agg #[.int .i64 kind,.int .i64 kg,.int .i64 kl,.int .i64 par,.int .i64 bud])] w fun e w'=>∃gl W,e= .returned (.tuple #[.pointer (some ⟨gl,0,none⟩),.int .i64 0])∧w.heap.size≤gl∧Below w.heap.size w W∧W.heap[gl]? =some (.cells #[.int .i64 kind,.int .i64 (t.length:Int),.nilIface] 115 (0,0))∧Q gl W w':=by
 obtain⟨nm,hne,HN⟩:=hnm;obtain⟨l1,l2,l3,l4⟩:=chk_len hck;have HS:=Lib.hid hs;have HT:=Lib.hid ht;have HMk:=Lib.hid HM;have HNm:=Lib.hid HN;clear hs ht HM HN;go_enter Tryz.func38,Tryz.ntmps38;go_wp2_with fail;have hb1:=below_new w (.cells #[.slice A p.length c,.slice B t.length d] 24);have hx1:=blk_new w (.cells #[.slice A p.length c,.slice B t.length d] 24);have hz1:(w.alloc (.cells #[.slice A p.length c,.slice B t.length d] 24)).heap.size=w.heap.size+1:=by simp
 generalize w.alloc (.cells #[.slice A p.length c,.slice B t.length d] 24)=W1 at*;have hb2:=below_new W1 (.cells #[.int .i64 kind,.int .i64 kg,.int .i64 kl,.int .i64 par,.int .i64 bud] 58);have hx2:=blk_new W1 (.cells #[.int .i64 kind,.int .i64 kg,.int .i64 kl,.int .i64 par,.int .i64 bud] 58);have hz2:(W1.alloc (.cells #[.int .i64 kind,.int .i64 kg,.int .i64 kl,.int .i64 par,.int .i64 bud] 58)).heap.size=W1.heap.size+1:=by simp
 generalize W1.alloc (.cells #[.int .i64 kind,.int .i64 kg,.int .i64 kl,.int .i64 par,.int .i64 bud] 58)=W2 at*;have HB2:=Lib.hid (hb1.trans (hb2.mono hb1.size));have HX1:=Lib.hid ((Mod.of_below (S:=[]) hb2).blk hx1 (by simp));rw[hz1]at hx2;have HX2:=Lib.hid hx2;clear hb1 hx1 hb2 hx2;refine(HNm.out W2).mono ?_;rintro e W3 ⟨rfl,hb3⟩;have hz3:=hb3.size;have HB3:=Lib.hid (HB2.out.trans (hb3.mono HB2.out.size));have HX1':=Lib.hid ((Mod.of_below (S:=[]) hb3).blk HX1.out (by simp));have HX2':=Lib.hid ((Mod.of_below (S:=[]) hb3).blk HX2.out (by simp));clear hb3 HB2 HX1 HX2;have b0:=blk_cell HX1'.out 0 (by simp);have b1:=blk_cell HX1'.out 1 (by simp);have HCK:=Lib.hid (check_any p t A B c d W3 (by omega) (by omega) ((Sl.below HS.out HB3.out).more HB3.out.size) ((Sl.below HT.out HB3.out).more HB3.out.size));simp only[List.getElem_toArray,List.getElem_cons_zero,List.getElem_cons_succ]at b0 b1;rw[hck]at HCK;go_wp2_with fail;refine HCK.out.mono ?_;rintro e W4 ⟨rfl,hb4⟩;have hz4:=hb4.size;have HB4:=Lib.hid (HB3.out.trans (hb4.mono HB3.out.size));have HY1:=(Mod.of_below (S:=[]) hb4).blk HX1'.out (by simp);have HY2:=(Mod.of_below (S:=[]) hb4).blk HX2'.out (by simp);have hb5:=below_new W4 (.cells #[.int .i64 kind,.int .i64 (t.length:Int),.nilIface] 115);have hx5:=blk_new W4 (.cells #[.int .i64 kind,.int .i64 (t.length:Int),.nilIface] 115);have HX5:=Lib.hid hx5;have HB5:=Lib.hid (HB4.out.trans (hb5.mono HB4.out.size));have HM5:=Lib.hid (HMk.out W4.heap.size _ (by omega) HB5.out hx5);clear b0 b1;have b0:=blk_cell HY1 0 (by simp);have b1:=blk_cell HY1 1 (by simp);have s0:=blk_cell HY2 0 (by simp);have s1:=blk_cell HY2 1 (by simp);have s2:=blk_cell HY2 2 (by simp);have s3:=blk_cell HY2 3 (by simp);have s4:=blk_cell HY2 4 (by simp);have HZ1:=(Mod.of_below (S:=[]) hb5).blk HY1 (by simp);have HZ2:=(Mod.of_below (S:=[]) hb5).blk HY2 (by simp);have d0:=blk_cell HZ1 0 (by simp);have d1:=blk_cell HZ1 1 (by simp);have r1:=blk_cell HZ2 1 (by simp);have r2:=blk_cell HZ2 2 (by simp);have r3:=blk_cell HZ2 3 (by simp);have r4:=blk_cell HZ2 4 (by simp);simp only[List.getElem_toArray,List.getElem_cons_zero,List.getElem_cons_succ]at b0 b1 s0 s1 s2 s3 s4 d0 d1 r1 r2 r3 r4;clear HZ1 HZ2 hb4 HY1 HY2 hb5 hx5 HX1' HX2' HB3 HCK HMk HNm;go_wp2_with fail;refine HM5.out.mono ?_;rintro e W6 ⟨rfl,hq⟩;have HQ:=Lib.hid hq;clear hq;go_wp2_with fail;go_ret2;exact⟨_,_,rfl,by omega,HB5.out,HX5.out,HQ.out⟩
end Go.Proofs.YtfmiioddhpkdkaaGreat.Lk
namespace Go.Proofs.YtfmiioddhpkdkaaGreat.Sp
structure E where
 kind:Int
 th:Int
 rd:Bool
 ct:Int
@[ext]structure St where
 th:Int
 rd:Bool
 ask:Int
 en:Int
 ex:Int
 re:Int
 ct:Int
def e0:E:=⟨0,0,false,0⟩
def hit (kd t:Int)(e:E):Bool:=decide (e.kind=kd)&&decide (e.th=t)
def nxF (kd t:Int):List E→Nat→Int
 |[],_=> -1
 |e::r,i=>if hit kd t e then(i:Int)else nxF kd t r (i+1)
def nx (l:List E)(f:Nat)(kd t:Int):Int:=nxF kd t (l.drop f) f
def bh (l:List E)(a kd t:Int):Int:=if a<0 then-1 else nx l (a.toNat+1) kd t
def stay (l:List E)(a:Nat)(e:E):St:=
 ⟨e.th,e.rd,a,bh l a 2 e.th,bh l (bh l a 2 e.th) 3 e.th,bh l (bh l (bh l a 2 e.th) 3 e.th) 4 e.th,if 0≤bh l a 2 e.th then(l.getD (bh l a 2 e.th).toNat e0).ct else 0⟩
theorem nx_step {l:List E}{f:Nat}(h:f<l.length)(kd t:Int):nx l f kd t=if hit kd t (l.getD f e0)then(f:Int)else nx l (f+1) kd t:=by
 unfold nx;rw[List.drop_eq_getElem_cons h,nxF,List.getD_eq_getElem?_getD,List.getElem?_eq_getElem h];rfl
theorem nx_end {l:List E}{f:Nat}(h:l.length≤f)(kd t:Int):nx l f kd t= -1:=by
 unfold nx;rw[List.drop_eq_nil_of_le h];rfl
theorem nx_range (l:List E)(kd t:Int):∀(n f:Nat),l.length≤f+n→nx l f kd t= -1∨((f:Int)≤nx l f kd t∧nx l f kd t<(l.length:Int))
 |0,f,h=> .inl (nx_end (by omega) kd t)
 |n+1,f,h=>by
  by_cases hf:f<l.length
  ·rw[nx_step hf]
   split
   ·right;omega
   ·have:=nx_range l kd t n (f+1) (by omega)
    omega
  ·exact .inl (nx_end (by omega) kd t)
theorem bh_range (l:List E)(a kd t:Int):bh l a kd t= -1∨(0≤a∧a<bh l a kd t∧bh l a kd t<(l.length:Int)):=by
 unfold bh;split
 ·exact .inl rfl
 ·have:=nx_range l kd t l.length (a.toNat+1) (by omega)
  omega
def cut (k:Nat)(x:Int):Int:=if x<(k:Int)then x else-1
theorem nx_skip {l:List E}{kd t:Int}:∀(n f k:Nat),k=f+n→k≤l.length→cut k (nx l f kd t)= -1→nx l f kd t=nx l k kd t
 |0,f,k,h,_,_=>by subst h;rfl
 |n+1,f,k,h,hk,hc=>by
  have hs:=nx_step (l:=l) (f:=f) (by omega) kd t;by_cases hh:hit kd t (l.getD f e0)=true
  ·rw[if_pos hh]at hs
   rw[hs]at hc;unfold cut at hc;rw[if_pos (by omega)]at hc;omega
  ·rw[if_neg hh]at hs
   rw[hs]at hc⊢;exact nx_skip n (f+1) k (by omega) hk hc
theorem cut_bh {l:List E}{a k:Nat}{kd t:Int}(ha:a<k)(hk:k<l.length)(hc:cut k (bh l a kd t)= -1):cut (k+1) (bh l a kd t)=if hit kd t (l.getD k e0)then(k:Int)else-1:=by
 have hb:bh l (a:Int) kd t=nx l (a+1) kd t:=by
  unfold bh;rw[if_neg (by omega)];rfl
 rw[hb]at hc⊢;rw[nx_skip (k-(a+1)) (a+1) k (by omega) (by omega) hc,nx_step hk];have:=nx_range l kd t l.length (k+1) (by omega);unfold cut;split
 ·rw[if_pos (by omega)]
 ·rcases this with h|h
  ·rw[h];split<;>rfl
  ·rw[if_neg (by omega)]
theorem cut_past {k:Nat}{x:Int}(h:0≤cut k x):cut k x=x∧cut (k+1) x=x:=by
 unfold cut at*;split at h
 ·rename_i hx
  rw[if_pos hx,if_pos (by omega)];exact⟨rfl,rfl⟩
 ·omega
theorem cut_neg (k:Nat)(x:Int)(hx: -1≤x):cut k x= -1∨0≤cut k x:=by
 unfold cut;split
 ·omega
 ·exact .inl rfl
def cutS (k:Nat)(s:St):St:=⟨s.th,s.rd,s.ask,cut k s.en,cut k s.ex,cut k s.re,if 0≤cut k s.en then s.ct else 0⟩
def noteP (k:Nat)(s:St)(e:E):St:=
 if e.kind=2∧s.en<0 then {s with en:=k,ct:=e.ct}
 else if e.kind=3∧0≤s.en∧s.ex<0 then {s with ex:=k}
 else if e.kind=4∧0≤s.ex then {s with re:=k}
 else s
theorem hit_iff (kd t:Int)(e:E):hit kd t e=true↔e.kind=kd∧e.th=t:=by simp[hit]
theorem bh_ge (l:List E)(a kd t:Int): -1≤bh l a kd t:=by
 have:=bh_range l a kd t;omega
theorem cut_iff {k:Nat}{x:Int}(hx: -1≤x):cut k x= -1↔x= -1∨(k:Int)≤x:=by
 unfold cut;split<;>omega
theorem cut_step {l:List E}{a k:Nat}{e:E}(ha:a<k)(hk:k<l.length)(ho:cut k (stay l a e).re= -1):
 cutS (k+1) (stay l a e)=if(l.getD k e0).th=e.th then noteP k (cutS k (stay l a e)) (l.getD k e0)else cutS k (stay l a e):=by
 obtain⟨n,hn⟩:∃n,bh l a 2 e.th=n:=⟨_,rfl⟩;obtain⟨x,hx⟩:∃x,bh l n 3 e.th=x:=⟨_,rfl⟩;obtain⟨r,hr⟩:∃r,bh l x 4 e.th=r:=⟨_,rfl⟩
 have hst:stay l a e=⟨e.th,e.rd,a,n,x,r,if 0≤n then(l.getD n.toNat e0).ct else 0⟩:=by
  unfold stay;rw[hn,hx,hr]
 rw[hst]at ho⊢;have gn:=bh_ge l a 2 e.th;have gx:=bh_ge l n 3 e.th;have gr:=bh_ge l x 4 e.th;rw[hn]at gn;rw[hx]at gx;rw[hr]at gr;have rn:=bh_range l a 2 e.th;have rx:=bh_range l n 3 e.th;have rr:=bh_range l x 4 e.th;rw[hn]at rn;rw[hx]at rx;rw[hr]at rr
 have cr:∀y:Int,-1≤y→cut (k+1) y=if y=(k:Int)then(k:Int)else cut k y:=fun y hy=>by
  unfold cut;split<;>split<;>(try split)<;>omega
 have hn2:cut k n= -1→(n=(k:Int)↔hit 2 e.th (l.getD k e0)=true):=fun h=>by
  have:=cut_bh (l:=l) (a:=a) (k:=k) (kd:=2) (t:=e.th) ha hk (by rw[hn];exact h);rw[hn,cr n gn]at this;constructor
  ·intro e1
   rw[if_pos e1]at this;split at this
   ·assumption
   ·omega
  ·intro e1
   rw[if_pos e1]at this;split at this
   ·assumption
   ·omega
 have hx2:0≤n→n<(k:Int)→cut k x= -1→(x=(k:Int)↔hit 3 e.th (l.getD k e0)=true):=fun h1 h2 h=>by
  obtain⟨m,rfl⟩:=Int.eq_ofNat_of_zero_le h1;have:=cut_bh (l:=l) (a:=m) (k:=k) (kd:=3) (t:=e.th) (by omega) hk (by rw[hx];exact h);rw[hx,cr x gx]at this;constructor
  ·intro e1
   rw[if_pos e1]at this;split at this
   ·assumption
   ·omega
  ·intro e1
   rw[if_pos e1]at this;split at this
   ·assumption
   ·omega
 have hr2:0≤x→x<(k:Int)→cut k r= -1→(r=(k:Int)↔hit 4 e.th (l.getD k e0)=true):=fun h1 h2 h=>by
  obtain⟨m,rfl⟩:=Int.eq_ofNat_of_zero_le h1;have:=cut_bh (l:=l) (a:=m) (k:=k) (kd:=4) (t:=e.th) (by omega) hk (by rw[hr];exact h);rw[hr,cr r gr]at this;constructor
  ·intro e1
   rw[if_pos e1]at this;split at this
   ·assumption
   ·omega
  ·intro e1
   rw[if_pos e1]at this;split at this
   ·assumption
   ·omega
 simp only[hit_iff]at hn2 hx2 hr2;rw[cut_iff gr]at ho;have ci:=fun y hy=> @cut_iff k y hy;have cv:∀y:Int,y<(k:Int)→cut k y=y:=fun y h=>by unfold cut;rw[if_pos h]
 unfold cutS;simp only[cr n gn,cr x gx,cr r gr];generalize hE:l.getD k e0=ev at*;have hk0:(0:Int)≤(k:Int):=by omega
 have k1:¬(0:Int)≤-1:=by omega
 have k2:(-1:Int)<0:=by omega
 by_cases c1:0≤n∧n<(k:Int)
 ·have B1:cut k n=n:=cv n c1.2
  have nk:n≠(k:Int):=by omega
  have n0:¬n<0:=by omega
  by_cases c2:0≤x∧x<(k:Int)
  ·have B2:cut k x=x:=cv x c2.2
   have xk:x≠(k:Int):=by omega
   have x0:¬x<0:=by omega
   have B3:cut k r= -1:=(cut_iff gr).2 ho;have hh:=hr2 c2.1 c2.2 B3;simp only[B1,B2,B3,if_neg nk,if_neg xk,if_pos c1.1];by_cases rk:r=(k:Int)
   ·obtain⟨h1,h2⟩:=hh.1 rk
    simp[noteP,h1,h2,rk,c2.1]
   ·have h3:¬(ev.kind=4∧ev.th=e.th):=fun h=>rk (hh.2 h)
    by_cases ht:ev.th=e.th
    ·have h4:¬ev.kind=4:=fun h=>h3 ⟨h,ht⟩
     simp[noteP,ht,h4,rk,n0,x0]
    ·simp[ht,rk]
  ·have B2:cut k x= -1:=(cut_iff gx).2 (by omega)
   have B3:cut k r= -1:=(cut_iff gr).2 ho;have rk:r≠(k:Int):=by omega
   have hh:=hx2 c1.1 c1.2 B2;simp only[B1,B2,B3,if_neg nk,if_neg rk,if_pos c1.1];by_cases xk:x=(k:Int)
   ·obtain⟨h1,h2⟩:=hh.1 xk
    simp[noteP,h1,h2,xk,c1.1]
   ·have h3:¬(ev.kind=3∧ev.th=e.th):=fun h=>xk (hh.2 h)
    by_cases ht:ev.th=e.th
    ·have h4:¬ev.kind=3:=fun h=>h3 ⟨h,ht⟩
     simp[noteP,ht,h4,xk,n0]
    ·simp[ht,xk]
 ·have B1:cut k n= -1:=(cut_iff gn).2 (by omega)
  have B2:cut k x= -1:=(cut_iff gx).2 (by omega);have B3:cut k r= -1:=(cut_iff gr).2 ho;have xk:x≠(k:Int):=by omega
  have rk:r≠(k:Int):=by omega
  have hh:=hn2 B1;simp only[B1,B2,B3,if_neg xk,if_neg rk,if_neg k1];by_cases nk:n=(k:Int)
  ·obtain⟨h1,h2⟩:=hh.1 nk
   have c1':0≤n:=by omega
   have hct:(l.getD n.toNat e0).ct=ev.ct:=by rw[nk,Int.toNat_natCast,hE]
   simp only[if_pos nk,h2,if_true,noteP,h1,k2,and_self,if_pos hk0,c1',hct]
  ·have h3:¬(ev.kind=2∧ev.th=e.th):=fun h=>nk (hh.2 h)
   by_cases ht:ev.th=e.th
   ·have h4:¬ev.kind=2:=fun h=>h3 ⟨h,ht⟩
    simp[noteP,ht,h4,nk]
   ·simp[ht,nk]
theorem cut_rest {l:List E}{a k:Nat}{e:E}(ho:0≤cut k (stay l a e).re):cutS (k+1) (stay l a e)=cutS k (stay l a e):=by
 have hr:=cut_past ho
 have h1:(stay l a e).re<(k:Int):=by
  unfold cut at ho;split at ho
  ·assumption
  ·omega
 have h0:0≤(stay l a e).re:=by rw[←hr.1];exact ho
 have rr:=bh_range l (stay l a e).ex 4 e.th;have rx:=bh_range l (stay l a e).en 3 e.th;have e1:(stay l a e).re=bh l (stay l a e).ex 4 e.th:=rfl;have e2:(stay l a e).ex=bh l (stay l a e).en 3 e.th:=rfl;rw[←e1]at rr;rw[←e2]at rx
 have c:∀y:Int,y<(k:Int)→cut (k+1) y=cut k y:=fun y h=>by
  unfold cut;rw[if_pos h,if_pos (by omega)]
 unfold cutS;rw[c _ h1,c _ (show(stay l a e).ex<(k:Int) by omega),c _ (show(stay l a e).en<(k:Int) by omega)]
def isO (t:Int)(s:St):Bool:=decide (s.th=t)&&decide (s.re<0)
def stepR (l:List E)(out:List St)(k:Nat):List St:=
 let e:=l.getD k e0
 if e.kind=1∧∀s∈out,s.th=e.th→¬(s.re<0∨(k:Int)<s.re)then out++ [stay l k e]else out
def outR (l:List E):Nat→List St
 |0=> []
 |k+1=>stepR l (outR l k) k
def stepP (out:List St)(k:Nat)(e:E):List St:=
 if out.any (isO e.th)then out.map fun s=>if isO e.th s then noteP k s e else s
 else if e.kind=1 then out++ [⟨e.th,e.rd,k,-1,-1,-1,0⟩]else out
theorem nx_hit {l:List E}{kd t:Int}:∀(n f i:Nat),l.length≤f+n→nx l f kd t=(i:Int)→hit kd t (l.getD i e0)=true
 |0,f,i,h,e=>by rw[nx_end (by omega)]at e;omega
 |n+1,f,i,h,e=>by
  by_cases hf:f<l.length
  ·rw[nx_step hf]at e
   split at e
   ·rename_i hh
    obtain rfl:f=i:=by omega
    exact hh
   ·exact nx_hit n (f+1) i (by omega) e
  ·rw[nx_end (by omega)]at e;omega
theorem bh_hit {l:List E}{a kd t:Int}{i:Nat}(h:bh l a kd t=(i:Int)):hit kd t (l.getD i e0)=true:=by
 unfold bh at h;split at h
 ·omega
 ·exact nx_hit l.length _ i (by omega) h
def Asked (l:List E)(k:Nat)(out:List St):Prop:=∀s∈out,∃a e,a<k∧s=stay l a e
theorem re_ne {l:List E}{a k:Nat}{e:E}(h1:(l.getD k e0).kind=1):(stay l a e).re≠(k:Int):=by
 intro h;have:=(hit_iff _ _ _).1 (bh_hit (l:=l) (a:=(stay l a e).ex) (kd:=4) (t:=e.th) h);omega
theorem cut_keep {l:List E}{a k:Nat}{e:E}(ha:a<k)(hk:k<l.length)(h:¬isO (l.getD k e0).th (cutS k (stay l a e))=true):cutS (k+1) (stay l a e)=cutS k (stay l a e):=by
 have gr:=bh_ge l (stay l a e).ex 4 e.th;rcases cut_neg k (stay l a e).re gr with ho|ho
 ·rw[cut_step ha hk ho,if_neg]
  intro ht;apply h;unfold isO cutS;simp only[ho,Bool.and_eq_true,decide_eq_true_eq];exact⟨ht.symm,by omega⟩
 ·exact cut_rest ho
theorem cut_note {l:List E}{a k:Nat}{e:E}(ha:a<k)(hk:k<l.length)(h:isO (l.getD k e0).th (cutS k (stay l a e))=true):cutS (k+1) (stay l a e)=noteP k (cutS k (stay l a e)) (l.getD k e0):=by
 unfold isO at h;rw[Bool.and_eq_true,decide_eq_true_eq,decide_eq_true_eq]at h;have gr:=bh_ge l (stay l a e).ex 4 e.th;rcases cut_neg k (stay l a e).re gr with ho|ho
 ·have ht:(l.getD k e0).th=e.th:=h.1.symm
  rw[cut_step ha hk ho,if_pos ht]
 ·have:=h.2
  unfold cutS at this;simp only at this;omega
theorem cut_new (l:List E)(k:Nat)(e:E):cutS (k+1) (stay l k e)=⟨e.th,e.rd,k,-1,-1,-1,0⟩:=by
 have r1:=bh_range l (k:Int) 2 e.th;have r2:=bh_range l (bh l (k:Int) 2 e.th) 3 e.th;have r3:=bh_range l (bh l (bh l (k:Int) 2 e.th) 3 e.th) 4 e.th
 have c:∀y:Int,(y= -1∨(k:Int)<y)→cut (k+1) y= -1:=fun y h=>by
  unfold cut;split<;>omega
 unfold cutS stay;simp only;rw[c _ (by omega),c _ (by omega),c _ (by omega)];rfl
theorem step_eq {l:List E}{k:Nat}{out:List St}(hk:k<l.length)(hA:Asked l k out):
 stepP (out.map (cutS k)) k (l.getD k e0)=(stepR l out k).map (cutS (k+1)):=by
 unfold stepP stepR;simp only;by_cases h:(out.map (cutS k)).any (isO (l.getD k e0).th)=true
 ·rw[if_pos h]
  have hno:¬((l.getD k e0).kind=1∧∀s∈out,s.th=(l.getD k e0).th→¬(s.re<0∨(k:Int)<s.re)):=by
   rintro⟨h1,h2⟩;rw[List.any_eq_true]at h;obtain⟨y,hy,ho⟩:=h;rw[List.mem_map]at hy;obtain⟨s,hs,rfl⟩:=hy;obtain⟨a,e,ha,rfl⟩:=hA s hs;unfold isO at ho;rw[Bool.and_eq_true,decide_eq_true_eq,decide_eq_true_eq]at ho;have hne:=re_ne (l:=l) (a:=a) (e:=e) h1;have:=h2 _ hs ho.1;have h3:cut k (stay l a e).re<0:=ho.2;unfold cut at h3;split at h3<;>omega
  rw[if_neg hno,List.map_map];apply List.map_congr_left;intro s hs;obtain⟨a,e,ha,rfl⟩:=hA s hs;show(if isO (l.getD k e0).th (cutS k (stay l a e))=true then noteP k (cutS k (stay l a e)) (l.getD k e0)else cutS k (stay l a e))=_;by_cases ho:isO (l.getD k e0).th (cutS k (stay l a e))=true
  ·rw[if_pos ho,cut_note ha hk ho]
  ·rw[if_neg ho,cut_keep ha hk ho]
 ·rw[if_neg h]
  have hcl:∀s∈out,¬isO (l.getD k e0).th (cutS k s)=true:=fun s hs ho=>h (List.any_eq_true.2 ⟨_,List.mem_map.2 ⟨s,hs,rfl⟩,ho⟩)
  have hm:out.map (cutS k)=out.map (cutS (k+1)):=by
   apply List.map_congr_left;intro s hs;have hc:=hcl s hs;obtain⟨a,e,ha,rfl⟩:=hA s hs;exact(cut_keep ha hk hc).symm
  by_cases h1:(l.getD k e0).kind=1
  ·rw[if_pos h1,if_pos]
   ·rw[List.map_append,hm,List.map_cons,List.map_nil,cut_new]
   ·refine⟨h1,fun s hs ht ho=>hcl s hs ?_⟩
    unfold isO;rw[Bool.and_eq_true,decide_eq_true_eq,decide_eq_true_eq];refine⟨ht,?_⟩;show cut k s.re<0;unfold cut;split<;>omega
  ·rw[if_neg h1,if_neg (fun hh=>h1 hh.1),hm]
theorem asked (l:List E):∀k,Asked l k (outR l k)
 |0=>fun s hs=>by cases hs
 |k+1=>fun s hs=>by
  have ih:=asked l k;unfold outR stepR at hs;simp only at hs;split at hs
  ·rcases List.mem_append.1 hs with hs|hs
   ·obtain⟨a,e,ha,he⟩:=ih s hs
    exact⟨a,e,by omega,he⟩
   ·rw[List.mem_singleton]at hs
    exact⟨k,_,by omega,hs⟩
  ·obtain⟨a,e,ha,he⟩:=ih s hs
   exact⟨a,e,by omega,he⟩
def outP (l:List E):Nat→List St
 |0=> []
 |k+1=>stepP (outP l k) k (l.getD k e0)
theorem outP_eq (l:List E):∀k,k≤l.length→outP l k=(outR l k).map (cutS k)
 |0,_=>rfl
 |k+1,h=>by
  show stepP (outP l k) k (l.getD k e0)=_;rw[outP_eq l k (by omega),step_eq (by omega) (asked l k)];rfl
theorem cut_all {l:List E}{a:Nat}{e:E}:cutS l.length (stay l a e)=stay l a e:=by
 have r1:=bh_range l (a:Int) 2 e.th;have r2:=bh_range l (bh l (a:Int) 2 e.th) 3 e.th;have r3:=bh_range l (bh l (bh l (a:Int) 2 e.th) 3 e.th) 4 e.th;have c:∀y:Int,y<(l.length:Int)→cut l.length y=y:=fun y h=>by unfold cut;rw[if_pos h]
 unfold cutS stay;simp only;rw[c _ (by omega),c _ (by omega),c _ (by omega)];congr 1;split<;>rfl
theorem of_eq (l:List E):outP l l.length=outR l l.length:=by
 rw[outP_eq l l.length (Nat.le_refl _)];conv=>rhs;rw[←List.map_id (outR l l.length)]
 apply List.map_congr_left;intro s hs;obtain⟨a,e,_,rfl⟩:=asked l _ s hs;exact cut_all
end Go.Proofs.YtfmiioddhpkdkaaGreat.Sp
namespace Go.Proofs.YtfmiioddhpkdkaaGreat.Wf
open Go.RowKit Ara Lok Fl Ga Go.Proofs.YtfmiioddhpkdkaaGreat.Sp
abbrev Ev4:=Int×Int×Bool×Int
def eOf (e:Ev4):E:=⟨e.1,e.2.1,e.2.2.1,e.2.2.2⟩
theorem stepP_id {out:List St}{k:Nat}{e:E}(h:e.kind=0∨e.kind=5):stepP out k e=out:=by
 unfold stepP
 have hn:∀s,noteP k s e=s:=fun s=>by
  unfold noteP;rw[if_neg (by omega),if_neg (by omega),if_neg (by omega)]
 split
 ·conv=>rhs;rw[←List.map_id out]
  refine List.map_congr_left fun s _=> ?_;simp only[hn,ite_self,id]
 ·rw[if_neg (by omega)]
def pend (sp:List Sp)(q:List Int)(W:List Int):List Int:=q.filter (fun i=>decide ((spOf sp i).pc<10))++W
structure Fi (p:PK)(σ:Ar)(sp:List Sp)(q:List Int)(a b:List St)(k:Nat)(W:List Int):Prop where
 Q:QuK p σ sp q
 srt:a.Pairwise fun x y=>x.en<y.en
 A:∀s∈a,(0≤s.en∧s.en<(k:Int))∧(s.re<0→((spOf sp s.th).pc=10∧s.ex<0)∨(10<(spOf sp s.th).pc∧0≤s.ex))
 B:∀s∈b,s.en<0∧s.ex<0∧s.re<0
 P:b.map (·.th)=pend sp q W
 C:∀t,10≤(spOf sp t).pc→∃s∈a,s.th=t∧s.re<0
 W1:∀t,0<(spOf sp t).pc→(spOf sp t).pc≤dr p→t∈W
 W2:W=[]∨∃u,W=[u]∧0<(spOf sp u).pc∧(spOf sp u).pc≤dr p
section
variable {p:PK}{σ:Ar}{sp:List Sp}{q:List Int}{a b:List St}{k:Nat}{W:List Int}(h:Fi p σ sp q a b k W)
include h
end
end Go.Proofs.YtfmiioddhpkdkaaGreat.Wf
namespace Go.Proofs.YtfmiioddhpkdkaaGreat.Wf
open Go.RowKit Ara Lok Fl Ga Go.Proofs.YtfmiioddhpkdkaaGreat.Sp
def fN (k:Nat)(e:E)(s:St):St:=if isO e.th s then noteP k s e else s
theorem stepP_map {out:List St}{k:Nat}{e:E}(h:out.any (isO e.th)=true):stepP out k e=out.map (fN k e):=by
 unfold stepP;rw[if_pos h];rfl
theorem isO_iff {t:Int}{s:St}:isO t s=true↔s.th=t∧s.re<0:=by unfold isO;rw[Bool.and_eq_true,decide_eq_true_iff,decide_eq_true_iff]
theorem fN_th (k:Nat)(e:E)(s:St):(fN k e s).th=s.th:=by
 unfold fN noteP
 repeat' split
 all_goals rfl
section
variable {p:PK}{σ:Ar}{sp:List Sp}{q:List Int}{a b:List St}{k:Nat}{W:List Int}(h:Fi p σ sp q a b k W)
include h
variable {σ':Ar}{sp':List Sp}{q':List Int}{W':List Int}{t:Int}(hQ:QuK p σ' sp' q')(ho:∀j,j≠t→spOf sp' j=spOf sp j)
include hQ ho
end
end Go.Proofs.YtfmiioddhpkdkaaGreat.Wf
namespace Go.Proofs.YtfmiioddhpkdkaaGreat.Wf
open Go.RowKit Ara Lok Fl Ga Go.Proofs.YtfmiioddhpkdkaaGreat.Sp
theorem gst_one {s:Sp}(h:gst s=1)(h0:0≤s.pc):0<s.pc∧s.pc<10:=by
 unfold gst at h;split at h
 ·omega
 ·split at h
  ·omega
  ·split at h<;>omega
theorem gst_three {s:Sp}(h:gst s=3):10<s.pc:=by
 unfold gst at h;split at h
 ·omega
 ·split at h
  ·omega
  ·split at h
   ·omega
   ·omega
section
variable {p:PK}{σ:Ar}{sp:List Sp}{q:List Int}{a b:List St}{k:Nat}{W:List Int}(h:Fi p σ sp q a b k W)
include h
end
end Go.Proofs.YtfmiioddhpkdkaaGreat.Wf
