/- Merged texts: Lk1, Lk2, Lo1, Lo2, SpP, Wf1. -/
import Derived.Test.YtfmiioddhpkdkaaGreatWh24
import Derived.Test.YtfmiioddhpkdkaaGreatOpen
set_option linter.unusedVariables false
set_option linter.unusedSimpArgs false
namespace Go.Proofs.YtfmiioddhpkdkaaGreat.Lk
open Go.RowKit Go.Proofs.YtfmiioddhpkdkaaGreat.Ara Go.Proofs.YtfmiioddhpkdkaaGreat.Lok Go.Proofs.YtfmiioddhpkdkaaGreat.Ga
def LkB (W:World)(gl:Nat)(kind T:Int)(Ty:TypeId)(v:Value):Prop:=W.heap[gl]? =some (.cells #[.int .i64 kind,.int .i64 T,.iface Ty v] 115 (0,0))
theorem LkB.same {W W':World}{gl:Nat}{kind T:Int}{Ty:TypeId}{v:Value}(h:LkB W gl kind T Ty v)(b:Below W.heap.size W W'):LkB W' gl kind T Ty v:=(b.block _ (lt_of_blk h)).trans h
theorem LkB.mod {W W':World}{gl:Nat}{kind T:Int}{Ty:TypeId}{v:Value}(h:LkB W gl kind T Ty v){S:List Nat}(hm:Mod S W W')(hn:gl∉S):LkB W' gl kind T Ty v:=hm.blk h hn
theorem sfld (a b c d:Int)(W:World):(Instr.field 134 (.agg #[.int .i64 a,.int .i64 b,.int .i64 c,.int .i64 d]) 0).run Tryz.prog W= .ok (.int .i64 a) W:=by
 simp[Instr.field,run_underlying Tryz.underlying134,asAgg,go_sem]
theorem sfld1 (a b c d:Int)(W:World):(Instr.field 134 (.agg #[.int .i64 a,.int .i64 b,.int .i64 c,.int .i64 d]) 1).run Tryz.prog W= .ok (.int .i64 b) W:=by
 simp[Instr.field,run_underlying Tryz.underlying134,asAgg,go_sem]
def vSp (s:Sp):Value:= .agg #[.int .i64 s.pc,.int .i64 s.a,.int .i64 s.b,.int .i64 s.c]
section
variable(gl:Nat)(kind T:Int)(Ty:TypeId)(v:Value)(w:World)(H:LkB w gl kind T Ty v)
include H
theorem threads_lk:Calls Tryz.prog 45 #[.pointer (some ⟨gl,0,none⟩)] w fun e w'=>e= .returned (.int .i64 T)∧w'=w:=by
 have c0:=blk_cell H 0 (by simp);have c1:=blk_cell H 1 (by simp);have c2:=blk_cell H 2 (by simp);simp at c0 c1 c2;clear H;go_enter Tryz.func45,Tryz.ntmps45;go_wp2_with fail;go_ret;exact⟨rfl,rfl⟩
theorem has_in (i:Int)(h0:0≤i)(h1:i<T):Calls Tryz.prog 62 #[.pointer (some ⟨gl,0,none⟩),.int .i64 i] w fun e w'=>e= .returned (.bool true)∧w'=w:=by
 have HT:=Lib.hid (threads_lk gl kind T Ty v w H);clear H;go_enter Tryz.func62,Tryz.ntmps62;go_wp2_with fail;refine(HT.out).mono ?_;rintro e wx ⟨rfl,hwx⟩;obtain rfl:=hwx.symm;go_wp2_with fail;go_ret;exact⟨rfl,rfl⟩
theorem has_out (i:Int)(h:i<0∨T≤i):Calls Tryz.prog 62 #[.pointer (some ⟨gl,0,none⟩),.int .i64 i] w fun e w'=>e= .returned (.bool false)∧w'=w:=by
 have HT:=Lib.hid (threads_lk gl kind T Ty v w H);clear H;by_cases h0:0≤i
 ·have h1:¬i<T:=by omega
  have h2:decide (i<T)=false:=decide_eq_false h1;go_enter Tryz.func62,Tryz.ntmps62;go_wp2_with fail;refine(HT.out).mono ?_;rintro e wx ⟨rfl,hwx⟩;obtain rfl:=hwx.symm;go_wp2_with fail;go_ret;exact⟨rfl,rfl⟩
 ·go_enter Tryz.func62,Tryz.ntmps62
  go_wp2_with fail;go_ret;exact⟨rfl,rfl⟩
variable(F:FuncId)(r:Value)(hc:∀a W,(callFunc F a).run Tryz.prog W= .ok (.enter F a) W)
set_option maxRecDepth 100000 in
theorem Leave_gen (hc:∀a W,(callFunc F a).run Tryz.prog W= .ok (.enter F a) W)(hm:∀W,(method 456 Ty v "Leave").run Tryz.prog W= .ok (F,r) W)(i:Int)(h0:0≤i)(h1:i<T)(b:Bool)(R:World→Prop)(HC:Calls Tryz.prog F #[r,.int .i64 i] w fun e w'=>e= .returned (.bool b)∧R w'):
 Calls Tryz.prog 49 #[.pointer (some ⟨gl,0,none⟩),.int .i64 i] w fun e w'=>e= .returned (.bool b)∧R w':=by
 have HH:=Lib.hid (has_in gl kind T Ty v w H i h0 h1);have c0:=blk_cell H 0 (by simp);have c1:=blk_cell H 1 (by simp);have c2:=blk_cell H 2 (by simp);simp at c0 c1 c2;replace HC:=Lib.hid HC;clear H;go_enter Tryz.func49,Tryz.ntmps49;go_wp2_with fail;refine(HH.out).mono ?_;rintro e wx ⟨rfl,hwx⟩;obtain rfl:=hwx.symm;go_wp2_with fail;refine HC.out.mono ?_;rintro e w2 ⟨rfl,h2⟩;replace h2:=Lib.hid h2;go_wp2_with fail;go_ret;exact⟨rfl,h2.out⟩
set_option maxRecDepth 100000 in
theorem Step_gen (hc:∀a W,(callFunc F a).run Tryz.prog W= .ok (.enter F a) W)(hm:∀W,(method 456 Ty v "Step").run Tryz.prog W= .ok (F,r) W)(i:Int)(h0:0≤i)(h1:i<T)(b:Bool)(R:World→Prop)(HC:Calls Tryz.prog F #[r,.int .i64 i] w fun e w'=>e= .returned (.bool b)∧R w'):
 Calls Tryz.prog 46 #[.pointer (some ⟨gl,0,none⟩),.int .i64 i] w fun e w'=>e= .returned (.bool b)∧R w':=by
 have HH:=Lib.hid (has_in gl kind T Ty v w H i h0 h1);have c0:=blk_cell H 0 (by simp);have c1:=blk_cell H 1 (by simp);have c2:=blk_cell H 2 (by simp);simp at c0 c1 c2;replace HC:=Lib.hid HC;clear H;go_enter Tryz.func46,Tryz.ntmps46;go_wp2_with fail;refine(HH.out).mono ?_;rintro e wx ⟨rfl,hwx⟩;obtain rfl:=hwx.symm;go_wp2_with fail;refine HC.out.mono ?_;rintro e w2 ⟨rfl,h2⟩;replace h2:=Lib.hid h2;go_wp2_with fail;go_ret;exact⟨rfl,h2.out⟩
set_option maxRecDepth 100000 in
theorem Ask_gen (hc:∀a W,(callFunc F a).run Tryz.prog W= .ok (.enter F a) W)(hm:∀W,(method 456 Ty v "Ask").run Tryz.prog W= .ok (F,r) W)(i:Int)(rd:Bool)(h0:0≤i)(h1:i<T)(b:Bool)(R:World→Prop)(HC:Calls Tryz.prog F #[r,.int .i64 i,.bool rd] w fun e w'=>e= .returned (.bool b)∧R w'):
 Calls Tryz.prog 48 #[.pointer (some ⟨gl,0,none⟩),.int .i64 i,.bool rd] w fun e w'=>e= .returned (.bool b)∧R w':=by
 have HH:=Lib.hid (has_in gl kind T Ty v w H i h0 h1);have c0:=blk_cell H 0 (by simp);have c1:=blk_cell H 1 (by simp);have c2:=blk_cell H 2 (by simp);simp at c0 c1 c2;replace HC:=Lib.hid HC;clear H;go_enter Tryz.func48,Tryz.ntmps48;go_wp2_with fail;refine(HH.out).mono ?_;rintro e wx ⟨rfl,hwx⟩;obtain rfl:=hwx.symm;go_wp2_with fail;refine HC.out.mono ?_;rintro e w2 ⟨rfl,h2⟩;replace h2:=Lib.hid h2;go_wp2_with fail;go_ret;exact⟨rfl,h2.out⟩
set_option maxRecDepth 100000 in
theorem Count_gen (hc:∀a W,(callFunc F a).run Tryz.prog W= .ok (.enter F a) W)(hm:∀W,(method 456 Ty v "Count").run Tryz.prog W= .ok (F,r) W)(i:Int)(h0:0≤i)(h1:i<T)(b:Int)(R:World→Prop)(HC:Calls Tryz.prog F #[r,.int .i64 i] w fun e w'=>e= .returned (.int .i64 b)∧R w'):
 Calls Tryz.prog 47 #[.pointer (some ⟨gl,0,none⟩),.int .i64 i] w fun e w'=>e= .returned (.int .i64 b)∧R w':=by
 have HH:=Lib.hid (has_in gl kind T Ty v w H i h0 h1);have c0:=blk_cell H 0 (by simp);have c1:=blk_cell H 1 (by simp);have c2:=blk_cell H 2 (by simp);simp at c0 c1 c2;replace HC:=Lib.hid HC;clear H;go_enter Tryz.func47,Tryz.ntmps47;go_wp2_with fail;refine(HH.out).mono ?_;rintro e wx ⟨rfl,hwx⟩;obtain rfl:=hwx.symm;go_wp2_with fail;refine HC.out.mono ?_;rintro e w2 ⟨rfl,h2⟩;replace h2:=Lib.hid h2;go_wp2_with fail;go_ret;exact⟨rfl,h2.out⟩
end
end Go.Proofs.YtfmiioddhpkdkaaGreat.Lk
namespace Go.Proofs.YtfmiioddhpkdkaaGreat.Lk
open Go.RowKit Go.Proofs.YtfmiioddhpkdkaaGreat.Ara Go.Proofs.YtfmiioddhpkdkaaGreat.Lok Go.Proofs.YtfmiioddhpkdkaaGreat.Ga
def shK (kind:Int):Bool:=decide (11≤kind)&&decide (kind≤13)
theorem shares_any (kind:Int)(w:World):Calls Tryz.prog 32 #[.int .i64 kind] w fun e w'=>e= .returned (.bool (shK kind))∧w'=w:=by
 unfold shK;by_cases h1:11≤kind
 ·by_cases h2:kind≤13
  ·have h3:(decide (11≤kind)&&decide (kind≤13))=true:=by simp[h1,h2]
   rw[h3];clear h3;go_enter Tryz.func32,Tryz.ntmps32;go_wp2_with fail;go_ret;exact⟨rfl,rfl⟩
  ·have h3:(decide (11≤kind)&&decide (kind≤13))=false:=by simp[h2]
   rw[h3];clear h3;go_enter Tryz.func32,Tryz.ntmps32;go_wp2_with fail;go_ret;exact⟨rfl,rfl⟩
 ·have h3:(decide (11≤kind)&&decide (kind≤13))=false:=by simp[h1]
  rw[h3];clear h3;go_enter Tryz.func32,Tryz.ntmps32;go_wp2_with fail;go_ret;exact⟨rfl,rfl⟩
section
variable(gl:Nat)(kind T:Int)(Ty:TypeId)(v:Value)(w:World)(H:LkB w gl kind T Ty v)
include H
variable(F:FuncId)(r:Value)(hc:∀a W,(callFunc F a).run Tryz.prog W= .ok (.enter F a) W)
set_option maxRecDepth 100000 in
theorem Spot_gen (hc:∀a W,(callFunc F a).run Tryz.prog W= .ok (.enter F a) W)(hm:∀W,(method 456 Ty v "Spot").run Tryz.prog W= .ok (F,r) W)(i:Int)(h0:0≤i)(h1:i<T)(s:Sp)(HC:∀W,Below w.heap.size w W→Calls Tryz.prog F #[r,.int .i64 i] W fun e w'=>e= .returned (vSp s)∧Below W.heap.size W w'):
 Calls Tryz.prog 61 #[.pointer (some ⟨gl,0,none⟩),.int .i64 i] w fun e w'=>e= .returned (vSp s)∧Below w.heap.size w w':=by
 have hb:=below_new w (.cells #[.int .i64 0,.int .i64 0,.int .i64 0,.int .i64 0] 134);have hx:=blk_new w (.cells #[.int .i64 0,.int .i64 0,.int .i64 0,.int .i64 0] 134);have HB:=Lib.hid hb;have HX:=Lib.hid hx;have H1:=LkB.same H hb;have HH:=Lib.hid (has_in gl kind T Ty v _ H1 i h0 h1);replace HC:=Lib.hid (HC _ hb);have c0:=blk_cell H1 0 (by simp);have c1:=blk_cell H1 1 (by simp);have c2:=blk_cell H1 2 (by simp);simp at c0 c1 c2;clear H H1 hb hx;go_enter Tryz.func61,Tryz.ntmps61;go_wp2_with fail;refine(HH.out).mono ?_;rintro e wx ⟨rfl,hwx⟩;obtain rfl:=hwx.symm;go_wp2_with fail;refine HC.out.mono ?_;rintro e w2 ⟨rfl,h2⟩;have hs2:=h2.size;have HX2:=Lib.hid ((Mod.of_below (S:=[]) h2).blk HX.out (by simp));have HB2:=Lib.hid (HB.out.trans (h2.mono HB.out.size));clear HX HB HC HH c0 c1 c2 h2;unfold vSp;obtain⟨sa,sb,sc,sd⟩:=s;have d0:=blk_cell HX2.out 0 (by simp);have d1:=blk_cell HX2.out 1 (by simp);have d2:=blk_cell HX2.out 2 (by simp);have d3:=blk_cell HX2.out 3 (by simp);simp only[List.getElem_toArray,List.getElem_cons_zero,List.getElem_cons_succ]at d0 d1 d2 d3;have f0:=blk_free HX2.out 0;have f1:=blk_free HX2.out 1;have f2:=blk_free HX2.out 2;have f3:=blk_free HX2.out 3;have k0:=blk_set HX2.out 0 (.int .i64 sa);have k1:=blk_set k0 1 (.int .i64 sb);have k2:=blk_set k1 2 (.int .i64 sc);have k3:=blk_set k2 3 (.int .i64 sd);have g0:=blk_cell k0 0 (by simp);have g1:=blk_cell k1 1 (by simp);have g2:=blk_cell k2 2 (by simp);have g3:=blk_cell k3 3 (by simp);simp at g0 g1 g2 g3;clear k0 k1 k2 k3;go_wp2_with fail;refine bodyPost_ret (v:= .agg #[.int .i64 sa,.int .i64 sb,.int .i64 sc,.int .i64 sd]) ?_ rfl ⟨rfl,?_⟩
 ·simp[results,Tryz.results61,go_sem,g0,g1,g2,g3]
 ·exact(((HB2.out.setCell (Nat.le_refl _) _).setCell (Nat.le_refl _) _).setCell (Nat.le_refl _) _).setCell (Nat.le_refl _) _
end
section
variable(gl:Nat)(w:World)(i:Int)(s:Sp)(HC:∀W,Below w.heap.size w W→Calls Tryz.prog 61 #[.pointer (some ⟨gl,0,none⟩),.int .i64 i] W fun e w'=>e= .returned (vSp s)∧Below W.heap.size W w')
include HC
set_option maxRecDepth 100000 in
theorem State_gen:Calls Tryz.prog 43 #[.pointer (some ⟨gl,0,none⟩),.int .i64 i] w fun e w'=>e= .returned (.int .i64 (gst s))∧Below w.heap.size w w':=by
 have hf:=fun a b c d W=>sfld a b c d W;have HS:=Lib.hid (HC _ (Below.refl _ _));unfold gst;clear HC;unfold vSp at HS;by_cases h0:s.pc=0
 ·rw[if_pos h0]
  go_enter Tryz.func43,Tryz.ntmps43;go_wp2_with fail;refine HS.out.mono ?_;rintro e w2 ⟨rfl,h2⟩;have h2:=Lib.hid h2;go_wp2_with fail;go_ret;exact⟨rfl,h2.out⟩
 rw[if_neg h0];have e0:=ibeq_no h0;by_cases h1:s.pc<10
 ·rw[if_pos h1]
  go_enter Tryz.func43,Tryz.ntmps43;go_wp2_with fail;refine HS.out.mono ?_;rintro e w2 ⟨rfl,h2⟩;have h2:=Lib.hid h2;go_wp2_with fail;go_ret;exact⟨rfl,h2.out⟩
 rw[if_neg h1];by_cases h2:s.pc=10
 ·rw[if_pos h2]
  have e1:=ibeq h2;go_enter Tryz.func43,Tryz.ntmps43;go_wp2_with fail;refine HS.out.mono ?_;rintro e w2 ⟨rfl,h2⟩;have h2:=Lib.hid h2;go_wp2_with fail;go_ret;exact⟨rfl,h2.out⟩
 rw[if_neg h2];have e1:=ibeq_no h2;go_enter Tryz.func43,Tryz.ntmps43;go_wp2_with fail;refine HS.out.mono ?_;rintro e w2 ⟨rfl,h2⟩;have h2:=Lib.hid h2;go_wp2_with fail;go_ret;exact⟨rfl,h2.out⟩
end
def rdS (kind:Int)(s:Sp):Bool:=decide (s.pc≠0)&&shK kind&&decide (s.a=1)
theorem gst_no {s:Sp}(h:¬s.pc=0):¬gst s=0:=by unfold gst;rw[if_neg h];repeat(first|split|omega)
section
variable(gl:Nat)(kind T:Int)(Ty:TypeId)(v:Value)(w:World)(H:LkB w gl kind T Ty v)(i:Int)(s:Sp)(HC:∀W,Below w.heap.size w W→Calls Tryz.prog 61 #[.pointer (some ⟨gl,0,none⟩),.int .i64 i] W fun e w'=>e= .returned (vSp s)∧Below W.heap.size W w')
include H HC
set_option maxRecDepth 100000 in
theorem Reads_gen:Calls Tryz.prog 44 #[.pointer (some ⟨gl,0,none⟩),.int .i64 i] w fun e w'=>e= .returned (.bool (rdS kind s))∧Below w.heap.size w w':=by
 have hf:=fun a b c d W=>sfld1 a b c d W;have HS:=Lib.hid (State_gen gl w i s HC);have HQ:=Lib.hid HC;have HL:=Lib.hid H;clear H HC;unfold rdS;by_cases h0:s.pc=0
 ·have hg:gst s=0:=by unfold gst;rw[if_pos h0]
  have hr:(decide (s.pc≠0)&&shK kind&&decide (s.a=1))=false:=by simp[h0]
  rw[hr];rw[hg]at HS;clear hg hr h0;go_enter Tryz.func44,Tryz.ntmps44;go_wp2_with fail;refine HS.out.mono ?_;rintro e w2 ⟨rfl,h2⟩;have h2:=Lib.hid h2;go_wp2_with fail;go_ret;exact⟨rfl,h2.out⟩
 have hg:=gst_no h0;have h1:decide (s.pc≠0)=true:=decide_eq_true h0;rw[h1];clear h0 h1;generalize gst s=g at*;have e0:=ibne hg;by_cases hk:shK kind=true
 ·rw[hk]
  unfold vSp at HQ;by_cases ha:s.a=1
  ·have hr:(true&&true&&decide (s.a=1))=true:=by simp[ha]
   rw[hr];have e1:=ibeq ha;clear hr;go_enter Tryz.func44,Tryz.ntmps44;go_wp2_with fail;refine HS.out.mono ?_;rintro e w2 ⟨rfl,h2⟩;have HL2:=HL.out.same h2;have c0:=blk_cell HL2 0 (by simp);simp at c0;have h2:=Lib.hid h2;have HSp:=Lib.hid (HQ.out _ h2.out);clear HL2;go_wp2_with fail;refine(shares_any kind _).mono ?_;rintro e wx ⟨rfl,hwx⟩;obtain rfl:=hwx.symm;rw[hk];go_wp2_with fail;refine HSp.out.mono ?_;rintro e w3 ⟨rfl,h3⟩;have h3:=Lib.hid (h2.out.trans (h3.mono h2.out.size));go_wp2_with fail;go_ret;exact⟨rfl,h3.out⟩
  ·have hr:(true&&true&&decide (s.a=1))=false:=by simp[ha]
   rw[hr];have e1:=ibeq_no ha;clear hr;go_enter Tryz.func44,Tryz.ntmps44;go_wp2_with fail;refine HS.out.mono ?_;rintro e w2 ⟨rfl,h2⟩;have HL2:=HL.out.same h2;have c0:=blk_cell HL2 0 (by simp);simp at c0;have h2:=Lib.hid h2;have HSp:=Lib.hid (HQ.out _ h2.out);clear HL2;go_wp2_with fail;refine(shares_any kind _).mono ?_;rintro e wx ⟨rfl,hwx⟩;obtain rfl:=hwx.symm;rw[hk];go_wp2_with fail;refine HSp.out.mono ?_;rintro e w3 ⟨rfl,h3⟩;have h3:=Lib.hid (h2.out.trans (h3.mono h2.out.size));go_wp2_with fail;go_ret;exact⟨rfl,h3.out⟩
 ·have hk:shK kind=false:=by simpa using hk
  rw[hk];have hr:(true&&false&&decide (s.a=1))=false:=by simp
  rw[hr];clear hr;go_enter Tryz.func44,Tryz.ntmps44;go_wp2_with fail;refine HS.out.mono ?_;rintro e w2 ⟨rfl,h2⟩;have HL2:=HL.out.same h2;have c0:=blk_cell HL2 0 (by simp);simp at c0;have h2:=Lib.hid h2;clear HL2;go_wp2_with fail;refine(shares_any kind _).mono ?_;rintro e wx ⟨rfl,hwx⟩;obtain rfl:=hwx.symm;rw[hk];go_wp2_with fail;go_ret;exact⟨rfl,h2.out⟩
end
end Go.Proofs.YtfmiioddhpkdkaaGreat.Lk
namespace Go.Proofs.YtfmiioddhpkdkaaGreat.Lk
open Go.RowKit Go.Proofs.YtfmiioddhpkdkaaGreat.Ara
set_option maxRecDepth 100000 in
theorem name_2 (w:World):Calls Tryz.prog 56 #[.int .i64 2] w fun e w'=>e= .returned (.string ⟨#[116,105,99,107,101,116]⟩)∧Below w.heap.size w w':=by
 go_enter Tryz.func56,Tryz.ntmps56;go_wp2_with fail;go_ret;exact⟨rfl,below_new _ _⟩
set_option maxRecDepth 100000 in
theorem name_3 (w:World):Calls Tryz.prog 56 #[.int .i64 3] w fun e w'=>e= .returned (.string ⟨#[112,97,114,116,101,100]⟩)∧Below w.heap.size w w':=by
 go_enter Tryz.func56,Tryz.ntmps56;go_wp2_with fail;go_ret;exact⟨rfl,below_new _ _⟩
set_option maxRecDepth 100000 in
theorem name_4 (w:World):Calls Tryz.prog 56 #[.int .i64 4] w fun e w'=>e= .returned (.string ⟨#[109,99,115]⟩)∧Below w.heap.size w w':=by
 go_enter Tryz.func56,Tryz.ntmps56;go_wp2_with fail;go_ret;exact⟨rfl,below_new _ _⟩
set_option maxRecDepth 100000 in
theorem name_5 (w:World):Calls Tryz.prog 56 #[.int .i64 5] w fun e w'=>e= .returned (.string ⟨#[99,108,104]⟩)∧Below w.heap.size w w':=by
 go_enter Tryz.func56,Tryz.ntmps56;go_wp2_with fail;go_ret;exact⟨rfl,below_new _ _⟩
set_option maxRecDepth 100000 in
theorem name_6 (w:World):Calls Tryz.prog 56 #[.int .i64 6] w fun e w'=>e= .returned (.string ⟨#[99,111,104,111,114,116]⟩)∧Below w.heap.size w w':=by
 go_enter Tryz.func56,Tryz.ntmps56;go_wp2_with fail;go_ret;exact⟨rfl,below_new _ _⟩
end Go.Proofs.YtfmiioddhpkdkaaGreat.Lk
namespace Go.Proofs.YtfmiioddhpkdkaaGreat.Lk
open Go.RowKit Go.Proofs.YtfmiioddhpkdkaaGreat.Ara Go.Proofs.YtfmiioddhpkdkaaGreat.Tp
theorem neq_2:(ByteArray.toList ⟨#[116,105,99,107,101,116]⟩).isEmpty=false:=by kernel_rfl
theorem neq_3:(ByteArray.toList ⟨#[112,97,114,116,101,100]⟩).isEmpty=false:=by kernel_rfl
theorem neq_4:(ByteArray.toList ⟨#[109,99,115]⟩).isEmpty=false:=by kernel_rfl
theorem neq_5:(ByteArray.toList ⟨#[99,108,104]⟩).isEmpty=false:=by kernel_rfl
theorem neq_6:(ByteArray.toList ⟨#[99,111,104,111,114,116]⟩).isEmpty=false:=by kernel_rfl
def Named (kind:Int):Prop:=∃nm:ByteArray,nm.toList.isEmpty=false∧∀W,Calls Tryz.prog 56 #[.int .i64 kind] W fun e w'=>e= .returned (.string nm)∧Below W.heap.size W w'
theorem named_2:Named 2:=⟨_,neq_2,name_2⟩
theorem named_3:Named 3:=⟨_,neq_3,name_3⟩
theorem named_4:Named 4:=⟨_,neq_4,name_4⟩
theorem named_5:Named 5:=⟨_,neq_5,name_5⟩
theorem named_6:Named 6:=⟨_,neq_6,name_6⟩
set_option maxRecDepth 100000 in
theorem lnew_gen (p t:List Int)(A B:Option Addr)(c d:Nat)(w:World)(hck:chk p t=0)(hs:Sl w w.heap.size A (p.flatMap decI))(ht:Sl w w.heap.size B (t.flatMap decI))(kind:Int)(hnm:Named kind)(ga:Nat)(kg kl par bud:Int)(Q:Nat→World→World→Prop)
 (HM:∀gl W,w.heap.size≤gl→Below w.heap.size w W→W.heap[gl]? =some (.cells #[.int .i64 kind,.int .i64 (t.length:Int),.nilIface] 115 (0,0))→Calls Tryz.prog 58 #[.pointer (some ⟨gl,0,none⟩),.pointer (some ⟨ga,0,none⟩),(.agg #[.slice A p.length c,.slice B t.length d]),(.agg #[.int .i64 kg,.int .i64 kl,.int .i64 par,.int .i64 bud])] W fun e w'=>e= .returned (.int .i64 0)∧Q gl W w'):
 Calls Tryz.prog 38 #[.pointer (some ⟨ga,0,none⟩),(.agg #[.slice A p.length c,.slice B t.length d]),(.agg #[.int .i64 kind,.int .i64 kg,.int .i64 kl,.int .i64 par,.int .i64 bud])] w fun e w'=>∃gl W,e= .returned (.tuple #[.pointer (some ⟨gl,0,none⟩),.int .i64 0])∧w.heap.size≤gl∧Below w.heap.size w W∧W.heap[gl]? =some (.cells #[.int .i64 kind,.int .i64 (t.length:Int),.nilIface] 115 (0,0))∧Q gl W w':=by
 obtain⟨nm,hne,HN⟩:=hnm;obtain⟨l1,l2,l3,l4⟩:=chk_len hck;have HS:=Lib.hid hs;have HT:=Lib.hid ht;have HMk:=Lib.hid HM;have HNm:=Lib.hid HN;clear hs ht HM HN;go_enter Tryz.func38,Tryz.ntmps38;go_wp2_with fail;have hb1:=below_new w (.cells #[.slice A p.length c,.slice B t.length d] 24);have hx1:=blk_new w (.cells #[.slice A p.length c,.slice B t.length d] 24);have hz1:(w.alloc (.cells #[.slice A p.length c,.slice B t.length d] 24)).heap.size=w.heap.size+1:=by simp
 generalize w.alloc (.cells #[.slice A p.length c,.slice B t.length d] 24)=W1 at*;have hb2:=below_new W1 (.cells #[.int .i64 kind,.int .i64 kg,.int .i64 kl,.int .i64 par,.int .i64 bud] 58);have hx2:=blk_new W1 (.cells #[.int .i64 kind,.int .i64 kg,.int .i64 kl,.int .i64 par,.int .i64 bud] 58);have hz2:(W1.alloc (.cells #[.int .i64 kind,.int .i64 kg,.int .i64 kl,.int .i64 par,.int .i64 bud] 58)).heap.size=W1.heap.size+1:=by simp
 generalize W1.alloc (.cells #[.int .i64 kind,.int .i64 kg,.int .i64 kl,.int .i64 par,.int .i64 bud] 58)=W2 at*;have HB2:=Lib.hid (hb1.trans (hb2.mono hb1.size));have HX1:=Lib.hid ((Mod.of_below (S:=[]) hb2).blk hx1 (by simp));rw[hz1]at hx2;have HX2:=Lib.hid hx2;clear hb1 hx1 hb2 hx2;refine(HNm.out W2).mono ?_;rintro e W3 ⟨rfl,hb3⟩;have hz3:=hb3.size;have HB3:=Lib.hid (HB2.out.trans (hb3.mono HB2.out.size));have HX1':=Lib.hid ((Mod.of_below (S:=[]) hb3).blk HX1.out (by simp));have HX2':=Lib.hid ((Mod.of_below (S:=[]) hb3).blk HX2.out (by simp));clear hb3 HB2 HX1 HX2;have b0:=blk_cell HX1'.out 0 (by simp);have b1:=blk_cell HX1'.out 1 (by simp);have HCK:=Lib.hid (check_any p t A B c d W3 (by omega) (by omega) ((Sl.below HS.out HB3.out).more HB3.out.size) ((Sl.below HT.out HB3.out).more HB3.out.size));simp only[List.getElem_toArray,List.getElem_cons_zero,List.getElem_cons_succ]at b0 b1;rw[hck]at HCK;go_wp2_with fail;refine HCK.out.mono ?_;rintro e W4 ⟨rfl,hb4⟩;have hz4:=hb4.size;have HB4:=Lib.hid (HB3.out.trans (hb4.mono HB3.out.size));have HY1:=(Mod.of_below (S:=[]) hb4).blk HX1'.out (by simp);have HY2:=(Mod.of_below (S:=[]) hb4).blk HX2'.out (by simp);have hb5:=below_new W4 (.cells #[.int .i64 kind,.int .i64 (t.length:Int),.nilIface] 115);have hx5:=blk_new W4 (.cells #[.int .i64 kind,.int .i64 (t.length:Int),.nilIface] 115);have HX5:=Lib.hid hx5;have HB5:=Lib.hid (HB4.out.trans (hb5.mono HB4.out.size));have HM5:=Lib.hid (HMk.out W4.heap.size _ (by omega) HB5.out hx5);clear b0 b1;have b0:=blk_cell HY1 0 (by simp);have b1:=blk_cell HY1 1 (by simp);have s0:=blk_cell HY2 0 (by simp);have s1:=blk_cell HY2 1 (by simp);have s2:=blk_cell HY2 2 (by simp);have s3:=blk_cell HY2 3 (by simp);have s4:=blk_cell HY2 4 (by simp);have HZ1:=(Mod.of_below (S:=[]) hb5).blk HY1 (by simp);have HZ2:=(Mod.of_below (S:=[]) hb5).blk HY2 (by simp);have d0:=blk_cell HZ1 0 (by simp);have d1:=blk_cell HZ1 1 (by simp);have r1:=blk_cell HZ2 1 (by simp);have r2:=blk_cell HZ2 2 (by simp);have r3:=blk_cell HZ2 3 (by simp);have r4:=blk_cell HZ2 4 (by simp);simp only[List.getElem_toArray,List.getElem_cons_zero,List.getElem_cons_succ]at b0 b1 s0 s1 s2 s3 s4 d0 d1 r1 r2 r3 r4;clear HZ1 HZ2 hb4 HY1 HY2 hb5 hx5 HX1' HX2' HB3 HCK HMk HNm;go_wp2_with fail;refine HM5.out.mono ?_;rintro e W6 ⟨rfl,hq⟩;have HQ:=Lib.hid hq;clear hq;go_wp2_with fail;go_ret2;exact⟨_,_,rfl,by omega,HB5.out,HX5.out,HQ.out⟩
end Go.Proofs.YtfmiioddhpkdkaaGreat.Lk
namespace Go.Proofs.YtfmiioddhpkdkaaGreat.Sp
structure E where
 kind:Int
 th:Int
 rd:Bool
 ct:Int
@[ext]structure St where
 th:Int
 rd:Bool
 ask:Int
 en:Int
 ex:Int
 re:Int
 ct:Int
def e0:E:=⟨0,0,false,0⟩
def hit (kd t:Int)(e:E):Bool:=decide (e.kind=kd)&&decide (e.th=t)
def nxF (kd t:Int):List E→Nat→Int
 |[],_=> -1
 |e::r,i=>if hit kd t e then(i:Int)else nxF kd t r (i+1)
def nx (l:List E)(f:Nat)(kd t:Int):Int:=nxF kd t (l.drop f) f
def bh (l:List E)(a kd t:Int):Int:=if a<0 then-1 else nx l (a.toNat+1) kd t
def stay (l:List E)(a:Nat)(e:E):St:=
 ⟨e.th,e.rd,a,bh l a 2 e.th,bh l (bh l a 2 e.th) 3 e.th,bh l (bh l (bh l a 2 e.th) 3 e.th) 4 e.th,if 0≤bh l a 2 e.th then(l.getD (bh l a 2 e.th).toNat e0).ct else 0⟩
def noteP (k:Nat)(s:St)(e:E):St:=
 if e.kind=2∧s.en<0 then {s with en:=k,ct:=e.ct}
 else if e.kind=3∧0≤s.en∧s.ex<0 then {s with ex:=k}
 else if e.kind=4∧0≤s.ex then {s with re:=k}
 else s
def isO (t:Int)(s:St):Bool:=decide (s.th=t)&&decide (s.re<0)
def stepR (l:List E)(out:List St)(k:Nat):List St:=
 let e:=l.getD k e0
 if e.kind=1∧∀s∈out,s.th=e.th→¬(s.re<0∨(k:Int)<s.re)then out++ [stay l k e]else out
def outR (l:List E):Nat→List St
 |0=> []
 |k+1=>stepR l (outR l k) k
def stepP (out:List St)(k:Nat)(e:E):List St:=
 if out.any (isO e.th)then out.map fun s=>if isO e.th s then noteP k s e else s
 else if e.kind=1 then out++ [⟨e.th,e.rd,k,-1,-1,-1,0⟩]else out
def Asked (l:List E)(k:Nat)(out:List St):Prop:=∀s∈out,∃a e,a<k∧s=stay l a e
theorem asked (l:List E):∀k,Asked l k (outR l k)
 |0=>fun s hs=>by cases hs
 |k+1=>fun s hs=>by
  have ih:=asked l k;unfold outR stepR at hs;simp only at hs;split at hs
  ·rcases List.mem_append.1 hs with hs|hs
   ·obtain⟨a,e,ha,he⟩:=ih s hs
    exact⟨a,e,by omega,he⟩
   ·rw[List.mem_singleton]at hs
    exact⟨k,_,by omega,hs⟩
  ·obtain⟨a,e,ha,he⟩:=ih s hs
   exact⟨a,e,by omega,he⟩
def outP (l:List E):Nat→List St
 |0=> []
 |k+1=>stepP (outP l k) k (l.getD k e0)
end Go.Proofs.YtfmiioddhpkdkaaGreat.Sp
namespace Go.Proofs.YtfmiioddhpkdkaaGreat.Wf
open Go.RowKit Go.Proofs.YtfmiioddhpkdkaaGreat.Ara Go.Proofs.YtfmiioddhpkdkaaGreat.Lok Go.Proofs.YtfmiioddhpkdkaaGreat.Fl Go.Proofs.YtfmiioddhpkdkaaGreat.Ga Go.Proofs.YtfmiioddhpkdkaaGreat.Sp
abbrev Ev4:=Int×Int×Bool×Int
def fact (p:PK)(σ:Ar)(sp:List Sp)(t w:Int):Ev4×Ar×List Sp:=
 if t<0∨(sp.length:Int)≤t then((0,0,false,0),σ,sp)
 else if w=0 then
  if gst (spOf sp t)=1∨gst (spOf sp t)=3 then
   (if(doK p σ sp 0 t).1 then(if gst (spOf sp t)=1 then(2,t,false,1)else(4,t,false,0))else(0,t,false,0),(doK p σ sp 0 t).2)
  else((0,t,false,0),σ,sp)
 else if w=1 then(if(doK p σ sp 1 t).1 then(1,t,false,0)else(5,t,false,0),(doK p σ sp 1 t).2)
 else if w=2 then(if(doK p σ sp 2 t).1 then(3,t,false,0)else(5,t,false,0),(doK p σ sp 2 t).2)
 else((5,t,false,0),σ,sp)
def eOf (e:Ev4):E:=⟨e.1,e.2.1,e.2.2.1,e.2.2.2⟩
theorem fturn (p:PK)(σ:Ar)(sp:List Sp)(k:Nat)(hk:k<sp.length):(sp[k].pc=0∧∃s',doK p σ sp 1 k=(true,σ,sp.set k s')∧s'.pc=1)∨(¬sp[k].pc=0∧doK p σ sp 1 k=(false,σ,sp)):=by
 have hta:(sp[k].pc=0∧∃s',(turnB sp k 0,σ,turnS sp k 0 1)=(true,σ,sp.set k s')∧s'.pc=1)∨(¬sp[k].pc=0∧(turnB sp k 0,σ,turnS sp k 0 1)=(false,σ,sp)):=by
  rw[turn_in hk,turnS_in hk];by_cases h:sp[k].pc=0
  ·exact .inl ⟨h,_,by rw[if_pos h,show(sp[k].pc==0)=true from by simpa using h],rfl⟩
  ·exact .inr ⟨h,by rw[if_neg h,show(sp[k].pc==0)=false from by simpa using h]⟩
 cases p with
 |tas P=>
  show(sp[k].pc=0∧∃s',(turnB sp k 0,σ,Ta.askS sp k)=(true,σ,sp.set k s')∧s'.pc=1)∨(¬sp[k].pc=0∧(turnB sp k 0,σ,Ta.askS sp k)=(false,σ,sp));unfold Ta.askS;rw[turn_in hk,spOf_in hk,Int.toNat_natCast];by_cases h:sp[k].pc=0
  ·exact .inl ⟨h,_,by rw[show(sp[k].pc==0)=true from by simpa using h,if_pos rfl],rfl⟩
  ·exact .inr ⟨h,by rw[show(sp[k].pc==0)=false from by simpa using h,if_neg (by decide)]⟩
 |tic P=>exact hta
 |par P=>exact hta
 |mcs P=>exact hta
 |clh P=>exact hta
theorem fleave (p:PK)(σ:Ar)(sp:List Sp)(k:Nat)(hk:k<sp.length):(sp[k].pc=10∧∃s',doK p σ sp 2 k=(true,σ,sp.set k s')∧s'.pc=11)∨(¬sp[k].pc=10∧doK p σ sp 2 k=(false,σ,sp)):=by
 have hta:(sp[k].pc=10∧∃s',(turnB sp k 10,σ,turnS sp k 10 11)=(true,σ,sp.set k s')∧s'.pc=11)∨(¬sp[k].pc=10∧(turnB sp k 10,σ,turnS sp k 10 11)=(false,σ,sp)):=by
  rw[turn_in hk,turnS_in hk];by_cases h:sp[k].pc=10
  ·exact .inl ⟨h,_,by rw[if_pos h,show(sp[k].pc==10)=true from by simpa using h],rfl⟩
  ·exact .inr ⟨h,by rw[if_neg h,show(sp[k].pc==10)=false from by simpa using h]⟩
 cases p<;>exact hta
theorem stepP_id {out:List St}{k:Nat}{e:E}(h:e.kind=0∨e.kind=5):stepP out k e=out:=by
 unfold stepP
 have hn:∀s,noteP k s e=s:=fun s=>by
  unfold noteP;rw[if_neg (by omega),if_neg (by omega),if_neg (by omega)]
 split
 ·conv=>rhs;rw[←List.map_id out]
  refine List.map_congr_left fun s _=> ?_;simp only[hn,ite_self,id]
 ·rw[if_neg (by omega)]
def pend (sp:List Sp)(q:List Int)(W:List Int):List Int:=q.filter (fun i=>decide ((spOf sp i).pc<10))++W
structure Fi (p:PK)(σ:Ar)(sp:List Sp)(q:List Int)(a b:List St)(k:Nat)(W:List Int):Prop where
 Q:QuK p σ sp q
 srt:a.Pairwise fun x y=>x.en<y.en
 A:∀s∈a,(0≤s.en∧s.en<(k:Int))∧(s.re<0→((spOf sp s.th).pc=10∧s.ex<0)∨(10<(spOf sp s.th).pc∧0≤s.ex))
 B:∀s∈b,s.en<0∧s.ex<0∧s.re<0
 P:b.map (·.th)=pend sp q W
 C:∀t,10≤(spOf sp t).pc→∃s∈a,s.th=t∧s.re<0
 W1:∀t,0<(spOf sp t).pc→(spOf sp t).pc≤dr p→t∈W
 W2:W=[]∨∃u,W=[u]∧0<(spOf sp u).pc∧(spOf sp u).pc≤dr p
section
variable {p:PK}{σ:Ar}{sp:List Sp}{q:List Int}{a b:List St}{k:Nat}{W:List Int}(h:Fi p σ sp q a b k W)
include h
theorem Fi.up:Fi p σ sp q a b (k+1) W:=⟨h.Q,h.srt,fun s hs=>by have:=h.A s hs;exact⟨by omega,this.2⟩,h.B,h.P,h.C,h.W1,h.W2⟩
theorem dr3:1≤dr p∧dr p≤3:=by
 have hQ:=h.Q;cases p with
 |tas P=>exact absurd hQ id
 |tic P=>exact⟨by show(1:Int)≤1;omega,by show(1:Int)≤3;omega⟩
 |par P=>exact⟨by show(1:Int)≤1;omega,by show(1:Int)≤3;omega⟩
 |mcs P=>exact⟨by show(1:Int)≤3;omega,by show(3:Int)≤3;omega⟩
 |clh P=>exact⟨by show(1:Int)≤2;omega,by show(2:Int)≤3;omega⟩
theorem Fi.mem (t:Int):t∈b.map (·.th)↔0<(spOf sp t).pc∧(spOf sp t).pc<10:=by
 have hd:=dr3 h;rw[h.P];unfold pend;rw[List.mem_append,List.mem_filter,h.Q.mem t,decide_eq_true_iff];constructor
 ·rintro(⟨h1,h2⟩|h1)
  ·omega
  ·rcases h.W2 with e|⟨u,e,h3,h4⟩
   ·rw[e]at h1;cases h1
   ·rw[e,List.mem_singleton]at h1
    subst h1;omega
 ·rintro⟨h1,h2⟩
  by_cases h3:dr p<(spOf sp t).pc
  ·exact .inl ⟨h3,h2⟩
  ·exact .inr (h.W1 t h1 (by omega))
theorem Fi.nodup:(b.map (·.th)).Nodup:=by
 rw[h.P];unfold pend;rcases h.W2 with e|⟨u,e,h3,h4⟩
 ·rw[e,List.append_nil]
  exact h.Q.nodup.filter _
 ·rw[e]
  refine List.nodup_append.2 ⟨h.Q.nodup.filter _,by simp,fun x hx y hy=> ?_⟩;rw[List.mem_singleton]at hy;subst hy;have:=(h.Q.mem x).1 (List.mem_filter.1 hx).1;intro e2;subst e2;omega
theorem Fi.opens (t:Int):(a++b).any (isO t)=true↔0<(spOf sp t).pc:=by
 rw[List.any_append,Bool.or_eq_true,List.any_eq_true,List.any_eq_true];unfold isO;constructor
 ·rintro(⟨s,hs,h1⟩|⟨s,hs,h1⟩)<;>rw[Bool.and_eq_true,decide_eq_true_iff,decide_eq_true_iff]at h1
  ·have:=(h.A s hs).2 h1.2
   rw[←h1.1];omega
  ·have:=(h.mem s.th).1 (List.mem_map_of_mem hs)
   rw[←h1.1];omega
 ·intro h1
  by_cases h2:(spOf sp t).pc<10
  ·obtain⟨s,hs,e⟩:=List.mem_map.1 ((h.mem t).2 ⟨h1,h2⟩)
   exact .inr ⟨s,hs,by rw[Bool.and_eq_true,decide_eq_true_iff,decide_eq_true_iff];exact⟨e,(h.B s hs).2.2⟩⟩
  ·obtain⟨s,hs,e,hr⟩:=h.C t (by omega)
   exact .inl ⟨s,hs,by rw[Bool.and_eq_true,decide_eq_true_iff,decide_eq_true_iff];exact⟨e,hr⟩⟩
end
end Go.Proofs.YtfmiioddhpkdkaaGreat.Wf
