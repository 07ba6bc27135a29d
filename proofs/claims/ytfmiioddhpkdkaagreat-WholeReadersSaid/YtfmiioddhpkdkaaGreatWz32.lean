/- Merged texts: Sp1, Sp2, Sp3, Sp4, Sp5, Sp6, Sp8, Sp9, Sp10, Sp11, Wq3, Wq5, Sp12. -/
import Derived.Test.YtfmiioddhpkdkaaGreatWz31
import Derived.Laws.ResultCell
import Derived.RegionTactic
import Derived.BigRegion
import Derived.Deep.Cut
import Derived.Deep.CutBlock
import Derived.Maps.OwnSet
set_option linter.unusedVariables false
set_option linter.unusedSimpArgs false
set_option maxRecDepth 100000
set_option maxHeartbeats 8000000
namespace Go.Proofs.YtfmiioddhpkdkaaGreat.Sp
open Go.RowKit
end Go.Proofs.YtfmiioddhpkdkaaGreat.Sp
namespace Go.Proofs.YtfmiioddhpkdkaaGreat.Sp
open Go.RowKit
end Go.Proofs.YtfmiioddhpkdkaaGreat.Sp
namespace Go.Proofs.YtfmiioddhpkdkaaGreat.Sp
open Go.RowKit
end Go.Proofs.YtfmiioddhpkdkaaGreat.Sp
namespace Go.Proofs.YtfmiioddhpkdkaaGreat.Sp
open Go.RowKit
def dE (e:E):List Value:=[.int .i64 e.kind,.int .i64 e.th,.bool e.rd,.int .i64 e.ct]
theorem sl_ev {w:World}{Bd:Nat}{A:Option Addr}{l:List E}(h:Sl w Bd A (l.flatMap dE))(hk:0<l.length):∃b off,A=some ⟨b,off,none⟩∧b<Bd∧∀j,j<l.length→w.cell? ⟨b,off+j*4,none⟩=some (.int .i64 (l.getD j e0).kind)∧w.cell? ⟨b,off+j*4+1,none⟩=some (.int .i64 (l.getD j e0).th)∧w.cell? ⟨b,off+j*4+2,none⟩=some (.bool (l.getD j e0).rd)∧w.cell? ⟨b,off+j*4+3,none⟩=some (.int .i64 (l.getD j e0).ct):=by
 obtain⟨b,off,rfl,hb,hc⟩:=Sl_at (dec:=dE) (k:=4) (fun _=>rfl) (by omega) h hk;refine⟨b,off,rfl,hb,fun j hj=> ?_⟩;have h0:=hc j hj 0 (by omega);have h1:=hc j hj 1 (by omega);have h2:=hc j hj 2 (by omega);have h3:=hc j hj 3 (by omega);simp only[dE,List.getElem?_cons_zero,List.getElem?_cons_succ,Nat.add_zero,←Nat.add_assoc]at h0 h1 h2 h3;have e:l.getD j e0=l[j]:=by rw[List.getD_eq_getElem?_getD,List.getElem?_eq_getElem hj];rfl
 rw[e];exact⟨h0,h1,h2,h3⟩
end Go.Proofs.YtfmiioddhpkdkaaGreat.Sp
namespace Go.Proofs.YtfmiioddhpkdkaaGreat.Sp
open Go.RowKit
end Go.Proofs.YtfmiioddhpkdkaaGreat.Sp
namespace Go.Proofs.YtfmiioddhpkdkaaGreat.Sp
open Go.RowKit
def dSt (s:St):List Value:=[.int .i64 s.th,.bool s.rd,.int .i64 s.ask,.int .i64 s.en,.int .i64 s.ex,.int .i64 s.re,.int .i64 s.ct]
def s0:St:=⟨0,false,0,0,0,0,0⟩
theorem infoSt:(Tryz.prog.info? 40).map (fun i=>(i.zero,i.size,i.bytes))=some (some (.agg #[.int .i64 0,.bool false,.int .i64 0,.int .i64 0,.int .i64 0,.int .i64 0,.int .i64 0]),7,56):=by kernel_rfl
end Go.Proofs.YtfmiioddhpkdkaaGreat.Sp
namespace Go.Proofs.YtfmiioddhpkdkaaGreat.Sp
open Go.RowKit
end Go.Proofs.YtfmiioddhpkdkaaGreat.Sp
namespace Go.Proofs.YtfmiioddhpkdkaaGreat.Sp
open Go.RowKit
end Go.Proofs.YtfmiioddhpkdkaaGreat.Sp
namespace Go.Proofs.YtfmiioddhpkdkaaGreat.Sp
open Go.RowKit
def OkS (n:Nat)(s:St):Prop:=0≤s.ask∧s.ask<(n:Int)∧-1≤s.en∧s.en<(n:Int)
theorem outR_ok (l:List E):∀s∈outR l l.length,OkS l.length s:=fun s hs=>by
 obtain⟨a,e,ha,rfl⟩:=asked l l.length s hs;have r:=bh_range l (a:Int) 2 e.th;show 0≤(a:Int)∧(a:Int)<_∧-1≤bh l (a:Int) 2 e.th∧bh l (a:Int) 2 e.th<_;omega
theorem getD_mem {l:List St}{j:Nat}(h:j<l.length):l.getD j s0∈l:=by
 rw[List.getD_eq_getElem?_getD,List.getElem?_eq_getElem h];exact List.getElem_mem h
end Go.Proofs.YtfmiioddhpkdkaaGreat.Sp
namespace Go.Proofs.YtfmiioddhpkdkaaGreat.Sp
open Go.RowKit
theorem modHere {g i:Nat}{a w:World}(h:Mod [g] a w)(u:Value):Mod [g] a (w.setCell ⟨g,i,none⟩ u):=h.setCell (List.mem_singleton.2 rfl) u
theorem take_set (i n:Nat)(u:Value)(l:List Value):(l.set i u).take n=(l.take n).set i u:=by
 apply List.ext_getElem?;intro j;rw[List.getElem?_take,List.getElem?_set,List.getElem?_set,List.getElem?_take,List.length_take];by_cases h1:j<n
 ·rw[if_pos h1,if_pos h1]
  by_cases h2:i=j
  ·subst h2
   rw[if_pos rfl,if_pos rfl];by_cases h3:i<l.length
   ·rw[if_pos h3,if_pos (by omega)]
   ·rw[if_neg h3,if_neg (by omega)]
  ·rw[if_neg h2,if_neg h2]
 ·rw[if_neg h1,if_neg h1]
  split
  ·rw[if_neg (by omega)]
  ·rfl
theorem getD_set {out:List St}{s:St}{i j:Nat}(h:j<out.length):(out.set j s).getD i s0=if i=j then s else out.getD i s0:=by
 rw[List.getD_eq_getElem?_getD,List.getElem?_set];by_cases e:j=i
 ·subst e
  rw[if_pos rfl,if_pos h,if_pos rfl];rfl
 ·rw[if_neg e,if_neg (fun x=>e x.symm),List.getD_eq_getElem?_getD]
theorem own_put {w:World}{base g n cap size i:Nat}{e:TypeId}{xs:List Value}(h:w.ownsRow base e size (.slice (some ⟨g,0,none⟩) n cap) n xs)(u:Value):
 (w.setCell ⟨g,i,none⟩ u).ownsRow base e size (.slice (some ⟨g,0,none⟩) n cap) n (xs.set i u):=by
 refine⟨by rw[List.length_set];exact h.1,?_⟩;rcases h.2 with⟨hv,_⟩|⟨g',cap',cur,hv,hb,hg,h1,h2,h3,h4⟩
 ·cases hv
 ·cases hv
  exact .inr ⟨g,cap,cur.setIfInBounds i u,rfl,hb,blk_set hg i u,h1,h2,by simp[h3],by rw[←h4];simp[take_set]⟩
theorem flat_set {α:Type}{dec:α→List Value}{k:Nat}(hdk:∀a,(dec a).length=k){a:α}{i:Nat}{u:Value}(hi:i<k):∀(l:List α) (j:Nat) (hj:j<l.length),dec a=(dec l[j]).set i u→(l.set j a).flatMap dec=(l.flatMap dec).set (j*k+i) u
 |[],j,hj,_=>absurd hj (Nat.not_lt_zero _)
 |y::l,0,_,he=>by
  simp only[List.set_cons_zero,List.flatMap_cons,Nat.zero_mul,Nat.zero_add,List.getElem_cons_zero]at he⊢;rw[he,List.set_append_left _ _ (by rw[hdk];exact hi)]
 |y::l,j+1,hj,he=>by
  simp only[List.set_cons_succ,List.flatMap_cons,List.getElem_cons_succ]at he⊢;rw[flat_set hdk hi l j (by simpa using hj) he,List.set_append_right _ _ (by rw[hdk,Nat.add_mul];omega),hdk];congr 2;rw[Nat.add_mul];omega
def noteB (s:St)(e:E):Bool:=(decide (e.kind=2)&&decide (s.en<0))||(decide (e.kind=3)&&decide (0≤s.en)&&decide (s.ex<0))||(decide (e.kind=4)&&decide (0≤s.ex))
theorem set_self (out:List St)(j:Nat):out.set j (out.getD j s0)=out:=by
 apply List.ext_getElem?;intro i;rw[List.getElem?_set];split
 ·rename_i h
  subst h;split
  ·rename_i h2
   rw[List.getD_eq_getElem?_getD,List.getElem?_eq_getElem h2];rfl
  ·rename_i h2
   rw[List.getElem?_eq_none (by omega)]
 ·rfl
def SRow (base g cap:Nat)(out:List St)(w:World):Prop:=w.ownsRow base 40 7 (.slice (some ⟨g,0,none⟩) out.length cap) out.length (out.flatMap dSt)
theorem SRow.put {base g cap:Nat}{out:List St}{w:World}(h:SRow base g cap out w){j i:Nat}(hj:j<out.length)(hi:i<7){s:St}{u:Value}(he:dSt s=(dSt (out.getD j s0)).set i u):SRow base g cap (out.set j s) (w.setCell ⟨g,j*7+i,none⟩ u):=by
 unfold SRow;rw[flat_set (dec:=dSt) (k:=7) (fun _=>rfl) hi out j hj (by rw[he,List.getD_eq_getElem?_getD,List.getElem?_eq_getElem hj];rfl),List.length_set];exact own_put h u
theorem SRow.alloc {base g cap:Nat}{out:List St}{w:World}(h:SRow base g cap out w)(o:Obj):SRow base g cap out (w.alloc o):=own_below h (Nat.le_refl _) (below_new w o)
theorem SRow.drew {base g cap:Nat}{out:List St}{w:World}(h:SRow base g cap out w):SRow base g cap out w.drew:=h
theorem SRow.cells {base g cap:Nat}{out:List St}{w:World}(h:SRow base g cap out w){j:Nat}(hj:j<out.length):g<w.heap.size∧w.cell? ⟨g,j*7+3,none⟩=some (.int .i64 (out.getD j s0).en)∧w.cell? ⟨g,j*7+4,none⟩=some (.int .i64 (out.getD j s0).ex)∧w.cell? ⟨g,j*7+5,none⟩=some (.int .i64 (out.getD j s0).re)∧w.cell? ⟨g,j*7+6,none⟩=some (.int .i64 (out.getD j s0).ct)∧∀i,w.frozen? ⟨g,i,none⟩=false:=by
 have h7:out.flatMap dSt≠ []:=by
  intro e;have:=flat_len (dec:=dSt) (k:=7) (fun _=>rfl) out;rw[e]at this;simp at this;omega
 rcases h.2 with⟨hv,_⟩|⟨g',cap',cur,hv,hb,hg,h1,h2,h3,h4⟩
 ·cases hv
 ·cases hv
  have hsl:Sl w w.heap.size (some ⟨g,0,none⟩) (out.flatMap dSt):=by
   obtain⟨A,c,hA,_,_,hc⟩:=own_slice h;cases hA
   exact hc
  obtain⟨b,off,hA,hbb,hc⟩:=Sl_at (dec:=dSt) (k:=7) (fun _=>rfl) (by omega) hsl (by omega);cases hA
  have e:out.getD j s0=out[j]:=by rw[List.getD_eq_getElem?_getD,List.getElem?_eq_getElem hj];rfl
  have q3:=hc j hj 3 (by omega);have q4:=hc j hj 4 (by omega);have q5:=hc j hj 5 (by omega);have q6:=hc j hj 6 (by omega);simp only[dSt,List.getElem?_cons_zero,List.getElem?_cons_succ,Nat.zero_add]at q3 q4 q5 q6;rw[e];exact⟨hbb,q3,q4,q5,q6,fun i=>blk_free hg i⟩
theorem noteP_ne {k:Nat}{s:St}{e:E}(h:noteB s e=false):noteP k s e=s:=by
 unfold noteB at h;simp only[Bool.or_eq_false_iff,Bool.and_eq_false_iff,decide_eq_false_iff_not]at h;unfold noteP;rw[if_neg (by omega),if_neg (by omega),if_neg (by omega)]
theorem noteB_iff (s:St)(e:E):noteB s e=true↔(e.kind=2∧s.en<0)∨(e.kind=3∧0≤s.en∧s.ex<0)∨(e.kind=4∧0≤s.ex):=by
 unfold noteB;simp only[Bool.or_eq_true,Bool.and_eq_true,decide_eq_true_eq,or_assoc,and_assoc]
theorem noteB_no {s:St}{e:E}(h:¬((e.kind=2∧s.en<0)∨(e.kind=3∧0≤s.en∧s.ex<0)∨(e.kind=4∧0≤s.ex))):noteB s e=false:=by
 cases hb:noteB s e with
 |false=>rfl
 |true=>exact absurd ((noteB_iff s e).1 hb) h
def NoteAft (base g cap k:Nat)(out':List St)(b:Bool)(W:World)(x:Ending)(w':World):Prop:=
 x= .returned (.bool b)∧SRow base g cap out' w'∧Mod [g] W w'
theorem note_any (base g cap k j:Nat)(out:List St)(e:E)(W:World)(hr:SRow base g cap out W)(hj:j<out.length):
 Calls Tryz.prog 23 #[.pointer (some ⟨g,j*7,none⟩),.int .i64 (k:Int),.agg #[.int .i64 e.kind,.int .i64 e.th,.bool e.rd,.int .i64 e.ct]] W (NoteAft base g cap k (out.set j (noteP k (out.getD j s0) e)) (noteB (out.getD j s0) e) W):=by
 obtain⟨hg,c3,c4,c5,c6,hf⟩:=hr.cells hj;have f3:=hf (j*7+3);have f4:=hf (j*7+4);have f5:=hf (j*7+5);have f6:=hf (j*7+6);have HR:=Lib.hid hr;clear hr hf;by_cases h1:e.kind=2
 ·have K2:=Lib.hid (ibeq h1)
  have K3:Hid ((e.kind==3)=false):=Lib.hid (ibeq_no (by omega));have K4:Hid ((e.kind==4)=false):=Lib.hid (ibeq_no (by omega));by_cases h2:(out.getD j s0).en<0
  ·have HB:=Lib.hid ((noteB_iff (out.getD j s0) e).2 (by omega))
   have HD:=Lib.hid (show∀w,SRow base g cap out w→SRow base g cap (out.set j (noteP k (out.getD j s0) e)) ((w.setCell ⟨g,j*7+3,none⟩ (.int .i64 (k:Int))).setCell ⟨g,j*7+6,none⟩ (.int .i64 e.ct)) from fun w hw=>by
    have a1:=hw.put (s:={out.getD j s0 with en:=k}) (i:=3) (u:= .int .i64 (k:Int)) hj (by omega) rfl;have a2:=a1.put (j:=j) (s:={out.getD j s0 with en:=k,ct:=e.ct}) (i:=6) (u:= .int .i64 e.ct) (by rw[List.length_set];exact hj) (by omega) (by rw[getD_set hj,if_pos rfl];rfl);rw[List.set_set]at a2;have:noteP k (out.getD j s0) e={out.getD j s0 with en:=k,ct:=e.ct}:=by unfold noteP;rw[if_pos ⟨h1,h2⟩]
    rw[this];exact a2)
   rw[HB.out];generalize out.set j (noteP k (out.getD j s0) e)=out' at*;generalize out.getD j s0=s at*;have q2:=K2.out;have q3:=K3.out;have q4:=K4.out;clear K2 K3 K4;clear h1;go_enter Tryz.func23,Tryz.ntmps23;go_wp2_with fail;go_region
   all_goals go_wp2_with fail
   all_goals go_ret
   all_goals exact⟨rfl,(HD.out _ HR.out).alloc _,((modHere (modHere (Mod.refl _ _) _) _).alloc _).drew⟩
  ·have d2:=decide_eq_false h2
   have HB:=Lib.hid (noteB_no (s:=out.getD j s0) (e:=e) (by omega));have HD:=Lib.hid (show SRow base g cap (out.set j (noteP k (out.getD j s0) e)) W by rw[noteP_ne HB.out,set_self];exact HR.out);rw[HB.out];generalize out.set j (noteP k (out.getD j s0) e)=out' at*;generalize out.getD j s0=s at*;have q2:=K2.out;have q3:=K3.out;have q4:=K4.out;clear K2 K3 K4;go_enter Tryz.func23,Tryz.ntmps23;go_wp2_with fail;go_ret;exact⟨rfl,HD.out.alloc _,(Mod.refl _ _).alloc _⟩
 ·have K2:=Lib.hid (ibeq_no h1)
  by_cases h3:e.kind=3
  ·have K3:=Lib.hid (ibeq h3)
   have K4:Hid ((e.kind==4)=false):=Lib.hid (ibeq_no (by omega));by_cases h4:0≤(out.getD j s0).en
   ·by_cases h5:(out.getD j s0).ex<0
    ·have HB:=Lib.hid ((noteB_iff (out.getD j s0) e).2 (by omega))
     have HD:=Lib.hid (show∀w,SRow base g cap out w→SRow base g cap (out.set j (noteP k (out.getD j s0) e)) (w.setCell ⟨g,j*7+4,none⟩ (.int .i64 (k:Int))) from fun w hw=>by
      have a1:=hw.put (s:={out.getD j s0 with ex:=k}) (i:=4) (u:= .int .i64 (k:Int)) hj (by omega) rfl;have:noteP k (out.getD j s0) e={out.getD j s0 with ex:=k}:=(by unfold noteP;rw[if_neg (by omega),if_pos ⟨h3,h4,h5⟩]);rw[this];exact a1)
     rw[HB.out];generalize out.set j (noteP k (out.getD j s0) e)=out' at*;generalize out.getD j s0=s at*;have q2:=K2.out;have q3:=K3.out;have q4:=K4.out;clear K2 K3 K4;go_enter Tryz.func23,Tryz.ntmps23;go_wp2_with fail;go_ret;exact⟨rfl,(HD.out _ HR.out).alloc _,(modHere (Mod.refl _ _) _).alloc _⟩
    ·have d2:=decide_eq_false h5
     have HB:=Lib.hid (noteB_no (s:=out.getD j s0) (e:=e) (by omega));have HD:=Lib.hid (show SRow base g cap (out.set j (noteP k (out.getD j s0) e)) W by rw[noteP_ne HB.out,set_self];exact HR.out);rw[HB.out];generalize out.set j (noteP k (out.getD j s0) e)=out' at*;generalize out.getD j s0=s at*;have q2:=K2.out;have q3:=K3.out;have q4:=K4.out;clear K2 K3 K4;go_enter Tryz.func23,Tryz.ntmps23;go_wp2_with fail;go_ret;exact⟨rfl,HD.out.alloc _,(Mod.refl _ _).alloc _⟩
   ·have d2:=decide_eq_false h4
    have HB:=Lib.hid (noteB_no (s:=out.getD j s0) (e:=e) (by omega));have HD:=Lib.hid (show SRow base g cap (out.set j (noteP k (out.getD j s0) e)) W by rw[noteP_ne HB.out,set_self];exact HR.out);rw[HB.out];generalize out.set j (noteP k (out.getD j s0) e)=out' at*;generalize out.getD j s0=s at*;have q2:=K2.out;have q3:=K3.out;have q4:=K4.out;clear K2 K3 K4;go_enter Tryz.func23,Tryz.ntmps23;go_wp2_with fail;go_ret;exact⟨rfl,HD.out.alloc _,(Mod.refl _ _).alloc _⟩
  ·have K3:=Lib.hid (ibeq_no h3)
   by_cases h6:e.kind=4
   ·have K4:=Lib.hid (ibeq h6)
    by_cases h5:0≤(out.getD j s0).ex
    ·have HB:=Lib.hid ((noteB_iff (out.getD j s0) e).2 (by omega))
     have HD:=Lib.hid (show∀w,SRow base g cap out w→SRow base g cap (out.set j (noteP k (out.getD j s0) e)) (w.setCell ⟨g,j*7+5,none⟩ (.int .i64 (k:Int))) from fun w hw=>by
      have a1:=hw.put (s:={out.getD j s0 with re:=k}) (i:=5) (u:= .int .i64 (k:Int)) hj (by omega) rfl;have:noteP k (out.getD j s0) e={out.getD j s0 with re:=k}:=(by unfold noteP;rw[if_neg (by omega),if_neg (by omega),if_pos ⟨h6,h5⟩]);rw[this];exact a1)
     rw[HB.out];generalize out.set j (noteP k (out.getD j s0) e)=out' at*;generalize out.getD j s0=s at*;have q2:=K2.out;have q3:=K3.out;have q4:=K4.out;clear K2 K3 K4;go_enter Tryz.func23,Tryz.ntmps23;go_wp2_with fail;go_ret;exact⟨rfl,(HD.out _ HR.out).alloc _,(modHere (Mod.refl _ _) _).alloc _⟩
    ·have d2:=decide_eq_false h5
     have HB:=Lib.hid (noteB_no (s:=out.getD j s0) (e:=e) (by omega));have HD:=Lib.hid (show SRow base g cap (out.set j (noteP k (out.getD j s0) e)) W by rw[noteP_ne HB.out,set_self];exact HR.out);rw[HB.out];generalize out.set j (noteP k (out.getD j s0) e)=out' at*;generalize out.getD j s0=s at*;have q2:=K2.out;have q3:=K3.out;have q4:=K4.out;clear K2 K3 K4;go_enter Tryz.func23,Tryz.ntmps23;go_wp2_with fail;go_ret;exact⟨rfl,HD.out.alloc _,(Mod.refl _ _).alloc _⟩
   ·have K4:=Lib.hid (ibeq_no h6)
    have HB:=Lib.hid (noteB_no (s:=out.getD j s0) (e:=e) (by omega));have HD:=Lib.hid (show SRow base g cap (out.set j (noteP k (out.getD j s0) e)) W by rw[noteP_ne HB.out,set_self];exact HR.out);rw[HB.out];generalize out.set j (noteP k (out.getD j s0) e)=out' at*;generalize out.getD j s0=s at*;have q2:=K2.out;have q3:=K3.out;have q4:=K4.out;clear K2 K3 K4;go_enter Tryz.func23,Tryz.ntmps23;go_wp2_with fail;go_ret;exact⟨rfl,HD.out.alloc _,(Mod.refl _ _).alloc _⟩
end Go.Proofs.YtfmiioddhpkdkaaGreat.Sp
namespace Go.Proofs.YtfmiioddhpkdkaaGreat.Wq
open Go.RowKit Ara Lok Wn Wf Wo
open Go.Proofs.YtfmiioddhpkdkaaGreat.Sp (E)
def decPl (pl:Pl):List Value:=[.int .i64 pl.rest,.int .i64 pl.stay,.int .i64 pl.times,.bool pl.rd]
structure GIW (gw:Nat)(X:Type)(Gt:Nat→World→X→Prop)(st:X→Int→Int)(rd:X→Int→Bool)(act:X→Int→Int→Ev4×X)(may:Int→Prop)(S:List Nat)(L:Nat):Prop where
 lt:∀q∈S,q<L
 keep:∀k W W' x,Gt k W x→Below L W W'→Gt k W' x
 sh:∀k W x,Gt k W x→W.cell? ⟨gw,3,none⟩=some (.bool true)
 state:∀k W x t,Gt k W x→Calls Tryz.prog 22 #[.pointer (some ⟨gw,0,none⟩),.int .i64 t] W fun e w'=>e= .returned (.tuple #[.int .i64 (st x t),.bool (rd x t)])∧Below W.heap.size W w'
 doit:∀k W x t wn,k<1000→may wn→Gt k W x→Calls Tryz.prog 11 #[.pointer (some ⟨gw,0,none⟩),.agg #[.int .i64 t,.int .i64 wn]] W fun e w'=>e= .returned (wev (act x t wn).1)∧Gt (k+1) w' (act x t wn).2∧Mod S W w'
theorem rqL_take {X:Type}(st:X→Int→Int)(act:X→Int→Int→Ev4×X)(ps:List Pl)(x:X)(picks:List Int){k:Nat}(h:k<picks.length):rqL st act ps x (picks.take (k+1))=rqStep st act ps (rqL st act ps x (picks.take k)) picks[k]:=by
 unfold rqL;rw[List.take_succ_eq_append_getElem h,List.foldl_append];rfl
structure Clos (W:World)(L:Nat)(ps:List Pl)(F:Int→Option Nat)(m:Int→Mi)(k:Nat):Prop where
 at_:∀t B,F t=some B→L≤B∧CloAt W B (planOf ps t) (m t)
 no:∀t,F t=none→m t=mi0
 apart:∀t u B B',t≠u→F t=some B→F u=some B'→B+6≤B'∨B'+6≤B
 num:∀t,(0≤(m t).pk∧(m t).pk≤k)∧(0≤(m t).as_∧(m t).as_≤k)
theorem Clos.mod {W W':World}{L:Nat}{ps:List Pl}{F:Int→Option Nat}{m:Int→Mi}{k:Nat}(h:Clos W L ps F m k){S:List Nat}(hm:Mod S W W')(hS:∀q∈S,q<L∨∀t B,F t=some B→q<B∨B+6≤q):Clos W' L ps F m k:=
 ⟨fun t B hF=>⟨(h.at_ t B hF).1,(h.at_ t B hF).2.mod hm fun q hq=>by
  have hL:=(h.at_ t B hF).1;rcases hS q hq with hq|hq
  ·left;omega
  ·exact hq t B hF⟩,h.no,h.apart,h.num⟩
theorem wantT_num (pl:Pl)(pk as_ st:Int):(wantT pl pk as_ st).2.pk=pk+1∧((wantT pl pk as_ st).2.as_=as_∨(wantT pl pk as_ st).2.as_=as_+1):=by
 unfold wantT;split
 ·exact⟨rfl,.inr rfl⟩
 ·split
  ·exact⟨rfl,.inl rfl⟩
  ·exact⟨rfl,.inl rfl⟩
theorem num_step {pl:Pl}{x:Mi}{st:Int}{k:Nat}(h:(0≤x.pk∧x.pk≤k)∧(0≤x.as_∧x.as_≤k)):(0≤(wantS pl x st).2.pk∧(wantS pl x st).2.pk≤(k+1:Nat))∧(0≤(wantS pl x st).2.as_∧(wantS pl x st).2.as_≤(k+1:Nat)):=by
 unfold wantS;obtain⟨q,hq,hq0,hq1⟩:∃q,(if st=x.ws then x.pk else 0)=q∧0≤q∧q≤k:=⟨_,rfl,by split<;>omega,by split<;>omega⟩;rw[hq];obtain⟨h1,h2⟩:=wantT_num pl q x.as_ st;rw[h1];omega
theorem Clos.call {W W':World}{L:Nat}{ps:List Pl}{F:Int→Option Nat}{m:Int→Mi}{k:Nat}(h:Clos W L ps F m k){t:Int}{B:Nat}(hF:F t=some B){x:Mi}(hx:CloAt W' B (planOf ps t) x)(hm:Mod [B+1,B+2,B+3] W W')(hn:(0≤x.pk∧x.pk≤(k+1:Nat))∧(0≤x.as_∧x.as_≤(k+1:Nat))):Clos W' L ps F (fun u=>if u=t then x else m u) (k+1):=by
 refine⟨fun u B' hu=> ?_,fun u hu=> ?_,h.apart,fun u=> ?_⟩
 ·by_cases e:u=t
  ·subst e
   rw[hF]at hu;injection hu with hu;subst hu;simp only[if_true];exact⟨(h.at_ _ _ hF).1,hx⟩
  ·simp only[if_neg e]
   refine⟨(h.at_ u B' hu).1,(h.at_ u B' hu).2.mod hm fun q hq=> ?_⟩;have:=h.apart u t B' B e hu hF;simp at hq;omega
 ·by_cases e:u=t
  ·subst e
   rw[hF]at hu;cases hu
  ·simp only[if_neg e]
   exact h.no u hu
 ·by_cases e:u=t
  ·subst e
   simp only[if_true];exact hn
  ·simp only[if_neg e]
   have:=h.num u;omega
theorem Clos.fresh {W W':World}{L:Nat}{ps:List Pl}{F:Int→Option Nat}{m:Int→Mi}{k:Nat}(h:Clos W L ps F m k){t:Int}(hF:F t=none)(hL:L≤W.heap.size){B:Nat}(hB:W.heap.size≤B)(hm:Below W.heap.size W W')(hx:CloAt W' B (planOf ps t) mi0):Clos W' L ps (fun u=>if u=t then some B else F u) m k:=by
 have hlt:∀u B',F u=some B'→B'+6≤W.heap.size:=fun u B' hu=>(h.at_ u B' hu).2.lt;refine⟨fun u B' hu=> ?_,fun u hu=> ?_,fun u v B1 B2 hne h1 h2=> ?_,h.num⟩
 ·by_cases e:u=t
  ·subst e
   simp only[if_true]at hu;injection hu with hu;subst hu;rw[h.no _ hF];exact⟨by omega,hx⟩
  ·simp only[if_neg e]at hu
   exact⟨(h.at_ u B' hu).1,(h.at_ u B' hu).2.mod (Mod.of_below (S:=[]) hm) (by simp)⟩
 ·by_cases e:u=t
  ·subst e
   simp only[if_true]at hu;cases hu
  ·simp only[if_neg e]at hu
   exact h.no u hu
 ·by_cases e1:u=t
  ·by_cases e2:v=t
   ·omega
   ·simp only[if_pos e1]at h1
    simp only[if_neg e2]at h2;injection h1 with h1;have:=hlt v B2 h2;omega
  ·simp only[if_neg e1]at h1
   by_cases e2:v=t
   ·simp only[if_pos e2]at h2
    injection h2 with h2;have:=hlt u B1 h1;omega
   ·simp only[if_neg e2]at h2
    exact h.apart u v B1 B2 hne h1 h2
theorem own_mod {B:Nat}{e:TypeId}{size:Nat}{v:Value}{n:Nat}{xs:List Value}{S:List Nat}{W W':World}(h:W.ownsRow B e size v n xs)(hm:Mod S W W')(hS:∀q∈S,q<B∨∀b,v.ownBlock=some b→q≠b):W'.ownsRow B e size v n xs:=by
 obtain⟨h1,h2⟩:=h;refine⟨h1,?_⟩;rcases h2 with h2|⟨g,cap,cur,rfl,hg,hb,rest⟩
 ·exact .inl h2
 ·refine .inr ⟨g,cap,cur,rfl,hg,hm.blk hb (fun hq=> ?_),rest⟩
  rcases hS g hq with h|h
  ·omega
  ·exact h g rfl rfl
variable {X:Type}(gw:Nat)(Gt:Nat→World→X→Prop)(st:X→Int→Int)(rd:X→Int→Bool)(act:X→Int→Int→Ev4×X)(may:Int→Prop)(S:List Nat)
structure RW (ps:List Pl)(k:Nat)(v:Value)(F:Int→Option Nat)(r:Rq X)(n:Nat)(w W:World):Prop where
 own:W.ownsRow (w.heap.size+1) 44 4 v k (r.out.flatMap Sp.dE)
 fm:FM W w.heap.size n F
 clos:Clos W (w.heap.size+1) ps F r.m k
 gt:Gt k W r.x
 mod:Mod S w W
 sz:w.heap.size+1≤W.heap.size
theorem FM.mono {W:World}{mb n n':Nat}{F:Int→Option Nat}(h:FM W mb n F)(hn:n≤n'):FM W mb n' F:=by
 obtain⟨D,h1,h2⟩:=h;exact⟨D,h1.mono hn,h2⟩
theorem RW.more {Gt:Nat→World→X→Prop}{S:List Nat}{ps:List Pl}{k:Nat}{v:Value}{F:Int→Option Nat}{r:Rq X}{n:Nat}{w W:World}(h:RW Gt S ps k v F r n w W):RW Gt S ps k v F r (n+1) w W:=⟨h.own,h.fm.mono (Nat.le_succ _),h.clos,h.gt,h.mod,h.sz⟩
theorem mod_below {S:List Nat}{a b c:World}(h:Mod S a b)(hb:Below a.heap.size b c):Mod S a c:=
 ⟨hb.os.trans h.os,hb.tape.trans h.tape,hb.output.trans h.output,Nat.le_trans h.size hb.size,fun k hk hn=>(hb.block k hk).trans (h.block k hk hn)⟩
theorem RW.fresh {X:Type}{gw:Nat}{Gt:Nat→World→X→Prop}{st:X→Int→Int}{rd:X→Int→Bool}{may:Int→Prop}{act:X→Int→Int→Ev4×X}{S:List Nat}{ps:List Pl}{k:Nat}{v:Value}{F:Int→Option Nat}{r:Rq X}{w W w2 w3:World}(hG:GIW gw X Gt st rd act may S w.heap.size)(h:RW Gt S ps k v F r k w W){t:Int}(hF:F t=none){B:Nat}(hB:W.heap.size≤B)(hb:Below W.heap.size W w2)(hc:CloAt w2 B (planOf ps t) mi0)
 (hfm:FM w3 w.heap.size (k+1) fun u=>if u=t then some B else F u) (hm:Mod [w.heap.size] w2 w3):RW Gt S ps k v (fun u=>if u=t then some B else F u) r (k+1) w w3:=by
 have hz:=h.sz;have hz2:=hb.size;have hb3:Below w.heap.size W w3:=(hb.mono (by omega)).trans (hm.below (by omega) (by simp));refine⟨own_mod (own_mod h.own (Mod.of_below (S:=[]) hb) (by simp)) hm (by simp),hfm,(h.clos.fresh hF (by omega) hB hb hc).mod hm (by simp),hG.keep _ _ _ _ h.gt hb3,mod_below h.mod hb3,?_⟩;have:=hm.size;omega
theorem RW.same {Gt:Nat→World→X→Prop}{S:List Nat}{gw:Nat}{st:X→Int→Int}{rd:X→Int→Bool}{may:Int→Prop}{act:X→Int→Int→Ev4×X}{ps:List Pl}{k:Nat}{v:Value}{F:Int→Option Nat}{r:Rq X}{n:Nat}{w W W':World}(hG:GIW gw X Gt st rd act may S w.heap.size)(h:RW Gt S ps k v F r n w W)(hb:Below W.heap.size W W'):RW Gt S ps k v F r n w W':=by
 have hz:=h.sz;have hz2:=hb.size;exact⟨own_mod h.own (Mod.of_below (S:=[]) hb) (by simp),h.fm.mod (Mod.of_below (S:=[]) hb) (by simp),h.clos.mod (Mod.of_below (S:=[]) hb) (by simp),hG.keep _ _ _ _ h.gt (hb.mono (by omega)),mod_below h.mod (hb.mono (by omega)),by omega⟩
theorem own_apart {W:World}{base:Nat}{v:Value}{n:Nat}{xs:List Value}{B:Nat}{pl:Pl}{x:Mi}(h:W.ownsRow base 44 4 v n xs)(hc:CloAt W B pl x){q:Nat}(hq:v.ownBlock=some q):q<B∨B+6≤q:=by
 rcases h.2 with⟨rfl,_⟩|⟨g,cap,cur,rfl,_,hb,_⟩
 ·cases hq
 ·have e:g=q:=by simpa[Value.ownBlock]using hq
  subst e;have n0:g≠B:=fun e=>by subst e;have:=hb.symm.trans hc.b0;simp at this
  have n1:g≠B+1:=fun e=>by subst e;have:=hb.symm.trans hc.b1;simp at this
  have n2:g≠B+2:=fun e=>by subst e;have:=hb.symm.trans hc.b2;simp at this
  have n3:g≠B+3:=fun e=>by subst e;have:=hb.symm.trans hc.b3;simp at this
  have n4:g≠B+4:=fun e=>by subst e;have:=hb.symm.trans hc.b4;simp at this
  have n5:g≠B+5:=fun e=>by subst e;have:=hb.symm.trans hc.b5;simp at this
  omega
structure RW2 (ps:List Pl)(k:Nat)(v:Value)(F:Int→Option Nat)(out:List E)(m:Int→Mi)(x:X)(k2:Nat)(w W:World):Prop where
 own:W.ownsRow (w.heap.size+1) 44 4 v k (out.flatMap Sp.dE)
 fm:FM W w.heap.size (k+1) F
 clos:Clos W (w.heap.size+1) ps F m (k+1)
 gt:Gt k2 W x
 mod:Mod S w W
 sz:w.heap.size+1≤W.heap.size
theorem RW.call {Gt:Nat→World→X→Prop}{S:List Nat}{gw:Nat}{st:X→Int→Int}{rd:X→Int→Bool}{may:Int→Prop}{act:X→Int→Int→Ev4×X}{ps:List Pl}{k:Nat}{v:Value}{F:Int→Option Nat}{r:Rq X}{w W W':World}(hG:GIW gw X Gt st rd act may S w.heap.size)(h:RW Gt S ps k v F r (k+1) w W){t:Int}{B:Nat}(hF:F t=some B)(s:Int)(hx:CloAt W' B (planOf ps t) (wantS (planOf ps t) (r.m t) s).2)(hm:Mod [B+1,B+2,B+3] W W'):RW2 Gt S ps k v F r.out (fun u=>if u=t then(wantS (planOf ps t) (r.m t) s).2 else r.m u) r.x k w W':=by
 have hz:=h.sz;obtain⟨hL,hc⟩:=h.clos.at_ t B hF;have hb:Below w.heap.size W W':=hm.below (by omega) (by simp;omega);refine⟨own_mod h.own hm (fun q hq=> .inr fun b hb e=> ?_),h.fm.mod hm (by simp;omega),h.clos.call hF hx hm (num_step (h.clos.num t)),hG.keep _ _ _ _ h.gt hb,mod_below h.mod hb,Nat.le_trans hz hm.size⟩;subst e;have:=own_apart h.own hc hb;simp at hq;omega
theorem RW2.did {Gt:Nat→World→X→Prop}{S:List Nat}{ps:List Pl}{k:Nat}{v:Value}{F:Int→Option Nat}{out:List E}{m:Int→Mi}{x x':X}{k2 k3:Nat}{w W W':World}(h:RW2 Gt S ps k v F out m x k2 w W)(hS:∀q∈S,q<w.heap.size)(hg:Gt k3 W' x')(hm:Mod S W W'):RW2 Gt S ps k v F out m x' k3 w W':=
 ⟨own_mod h.own hm (fun q hq=> .inl (by have:=hS q hq;omega)),h.fm.mod hm (fun hq=>by have:=hS _ hq;omega),h.clos.mod hm (fun q hq=> .inl (by have:=hS q hq;omega)),hg,h.mod.trans hm,Nat.le_trans h.sz hm.size⟩
theorem RW2.app {Gt:Nat→World→X→Prop}{S:List Nat}{gw:Nat}{st:X→Int→Int}{rd:X→Int→Bool}{may:Int→Prop}{act:X→Int→Int→Ev4×X}{ps:List Pl}{k:Nat}{v v':Value}{F:Int→Option Nat}{out:List E}{m:Int→Mi}{x:X}{w W W':World}(hG:GIW gw X Gt st rd act may S w.heap.size)(h:RW2 Gt S ps k v F out m x (k+1) w W)(ev:E)(ho:W'.ownsRow (w.heap.size+1) 44 4 v' (k+1) (out.flatMap Sp.dE++Sp.dE ev))(hb:Below (w.heap.size+1) W W')(hg:W.grownBy W' v.ownBlock):RW Gt S ps (k+1) v' F ⟨x,m,out++ [ev]⟩ (k+1) w W':=by
 have hm:Mod v.ownBlock.toList W W':=⟨hg.os,hg.tape,hg.output,hg.size,fun q hq hn=>hg.block q hq (fun e=>hn (by rw[←e];simp))⟩;have hb':=hb.mono (Nat.le_succ w.heap.size);refine⟨by rw[List.flatMap_append];simpa using ho,h.fm.blk (hb.block _ (by omega)),h.clos.mod hm (fun q hq=> .inr fun t B hF=>own_apart h.own (h.clos.at_ t B hF).2 (by simpa using hq)),hG.keep _ _ _ _ h.gt hb',mod_below h.mod hb',Nat.le_trans h.sz hb.size⟩
theorem infoE:(Tryz.prog.info? 44).map (fun i=>(i.zero,i.size,i.bytes))=some (some (.agg #[.int .i64 0,.int .i64 0,.bool false,.int .i64 0]),4,32):=by kernel_rfl
end Go.Proofs.YtfmiioddhpkdkaaGreat.Wq
namespace Go.Proofs.YtfmiioddhpkdkaaGreat.Wq
open Go.RowKit Ara Lok Wn Wf Wo
theorem giw_wo {gw ga gt gl:Nat}{X:Type}{D:LD X}{At:Nat→World→X→Prop}{may:Bool→Prop}{S:List Nat}{L:Nat}(hG:LI gl D At may S L)(hsh:D.sh=true):
 GIW gw X (fun k W x=>WoA gw ga gt gl D At S L k W x) D.st D.rd (wact D) (fun wn=>(wn=1→may false)∧(wn=3→may true)) S L where
 lt:=hG.lt
 keep:=fun _ _ _ _ K hb=>K.keep hG hb
 sh:=fun _ _ _ K=>by rw[K.cells.2,hsh]
 state:=fun _ _ _ t K=>state_wo hG K t
 doit:=fun _ _ _ t wn hk hm K=>do_wo hG K t wn hk hm.1 (fun h _=>hm.2 h)
end Go.Proofs.YtfmiioddhpkdkaaGreat.Wq
namespace Go.Proofs.YtfmiioddhpkdkaaGreat.Sp
open Go.RowKit Go.Maps
abbrev kI (t:Int):Lit:= .int .i64 t
def MapR (D:DataW Unit)(out:List St):Prop:=
 IsMap D∧∀t,Maps.has D (kI t)=out.any (isO t)∧∀i,i<out.length→isO t (out.getD i s0)=true→∀z,D.atKey (kI t) z= .lit (.int .i64 (i:Int))
theorem any_iff (f:St→Bool)(out:List St):out.any f=true↔∃i,i<out.length∧f (out.getD i s0)=true:=by
 rw[List.any_eq_true];constructor
 ·rintro⟨s,hs,h⟩
  obtain⟨i,hi,rfl⟩:=List.getElem_of_mem hs;exact⟨i,hi,by rw[List.getD_eq_getElem?_getD,List.getElem?_eq_getElem hi];exact h⟩
 ·rintro⟨i,hi,h⟩
  exact⟨_,getD_mem hi,h⟩
theorem mapR_nil:MapR (.map []) []:=⟨isMap_empty,fun t=>⟨rfl,fun i hi=>absurd hi (Nat.not_lt_zero _)⟩⟩
theorem MapR.only {D:DataW Unit}{out:List St}(h:MapR D out){t:Int}{i j:Nat}(hi:i<out.length)(hj:j<out.length)(h1:isO t (out.getD i s0)=true)(h2:isO t (out.getD j s0)=true):i=j:=by
 have a:=(h.2 t).2 i hi h1 (.map []);have b:=(h.2 t).2 j hj h2 (.map []);rw[a]at b;have b':(i:Int)=(j:Int):=by simpa using b
 omega
theorem getD_app {out:List St}{s:St}{i:Nat}(h:i<out.length):(out++ [s]).getD i s0=out.getD i s0:=by
 rw[List.getD_eq_getElem?_getD,List.getD_eq_getElem?_getD,List.getElem?_append_left h]
theorem getD_app_end {out:List St}{s:St}:(out++ [s]).getD out.length s0=s:=by
 rw[List.getD_eq_getElem?_getD,List.getElem?_append_right (Nat.le_refl _)];simp
theorem kI_ne {a b:Int}(h:a≠b):kI a≠kI b:=by
 intro e;injection e with _ e;exact h e
theorem isK_kI (t:Int):WideAt.IsKeyLit (kI t):=by simp[WideAt.IsKeyLit]
theorem MapR.new {D:DataW Unit}{out:List St}(h:MapR D out){s:St}(hr:s.re<0)(ho:out.any (isO s.th)=false):MapR (D.put (kI s.th) (.lit (.int .i64 (out.length:Int)))) (out++ [s]):=by
 refine⟨h.1.put _ _,fun t=> ?_⟩;by_cases e:t=s.th
 ·subst e
  refine⟨?_,fun i hi h1 z=> ?_⟩
  ·rw[has_put_same h.1 (isK_kI _)]
   simp[isO,hr]
  ·rw[atKey_put_same h.1 (isK_kI _)]
   by_cases hl:i<out.length
   ·rw[getD_app hl]at h1
    have:=(any_iff (isO s.th) out).2 ⟨i,hl,h1⟩;rw[ho]at this;cases this
   ·simp at hi
    rw[show i=out.length by omega]
 ·refine⟨?_,fun i hi h1 z=> ?_⟩
  ·rw[has_put_other (kI_ne e),(h.2 t).1]
   simp[isO,fun x=>e (Eq.symm x)];intro x;exact absurd x.symm e
  ·rw[atKey_put_other (kI_ne e)]
   by_cases hl:i<out.length
   ·rw[getD_app hl]at h1
    exact(h.2 t).2 i hl h1 z
   ·simp at hi
    rw[show i=out.length by omega,getD_app_end]at h1;unfold isO at h1;rw[Bool.and_eq_true,decide_eq_true_eq]at h1;exact absurd h1.1.symm e
theorem any_set {out:List St}{j:Nat}{s:St}(hj:j<out.length)(f:St→Bool)(h:f s=f (out.getD j s0)):(out.set j s).any f=out.any f:=by
 rw[Bool.eq_iff_iff,any_iff,any_iff];constructor
 ·rintro⟨i,hi,he⟩
  rw[List.length_set]at hi;rw[getD_set hj]at he;by_cases e:i=j
  ·subst e
   rw[if_pos rfl,h]at he;exact⟨i,hi,he⟩
  ·rw[if_neg e]at he
   exact⟨i,hi,he⟩
 ·rintro⟨i,hi,he⟩
  refine⟨i,by rw[List.length_set];exact hi,?_⟩;rw[getD_set hj];by_cases e:i=j
  ·subst e
   rw[if_pos rfl,h];exact he
  ·rw[if_neg e]
   exact he
theorem MapR.set {D:DataW Unit}{out:List St}(h:MapR D out){j:Nat}{s:St}(hj:j<out.length)(he:∀t,isO t s=isO t (out.getD j s0)):MapR D (out.set j s):=by
 refine⟨h.1,fun t=>⟨by rw[(h.2 t).1,any_set hj _ (he t)],fun i hi h1 z=> ?_⟩⟩;rw[List.length_set]at hi;rw[getD_set hj]at h1;by_cases e:i=j
 ·subst e
  rw[if_pos rfl,he]at h1;exact(h.2 t).2 i hi h1 z
 ·rw[if_neg e]at h1
  exact(h.2 t).2 i hi h1 z
theorem MapR.close {D:DataW Unit}{out:List St}(h:MapR D out){j:Nat}{s:St}{t:Int}(hj:j<out.length)(ho:isO t (out.getD j s0)=true)(hr:¬s.re<0):MapR (D.del (kI t)) (out.set j s):=by
 have hs:∀u,isO u s=false:=fun u=>by unfold isO;rw[decide_eq_false hr,Bool.and_false]
 refine⟨h.1.del _,fun u=> ?_⟩
 have hany:∀i,i<out.length→isO u ((out.set j s).getD i s0)=true→i≠j∧isO u (out.getD i s0)=true:=fun i hi h1=>by
  rw[getD_set hj]at h1;by_cases e:i=j
  ·subst e
   rw[if_pos rfl,hs]at h1;cases h1
  ·rw[if_neg e]at h1
   exact⟨e,h1⟩
 by_cases e:u=t
 ·subst e
  have hno:∀i,i<out.length→isO u ((out.set j s).getD i s0)=true→False:=fun i hi h1=>by
   obtain⟨a,b⟩:=hany i hi h1;exact a (h.only hi hj b ho)
  refine⟨?_,fun i hi h1=>by rw[List.length_set]at hi;exact(hno i hi h1).elim⟩;rw[has_del_same];cases hx:(out.set j s).any (isO u)with
  |false=>rfl
  |true=>
   obtain⟨i,hi,h1⟩:=(any_iff _ _).1 hx;rw[List.length_set]at hi;exact(hno i hi h1).elim
 ·refine⟨?_,fun i hi h1 z=> ?_⟩
  ·rw[has_del_other (kI_ne e),(h.2 u).1,Bool.eq_iff_iff,any_iff,any_iff]
   constructor
   ·rintro⟨i,hi,h1⟩
    refine⟨i,by rw[List.length_set];exact hi,?_⟩;rw[getD_set hj];by_cases e2:i=j
    ·subst e2
     unfold isO at h1 ho;rw[Bool.and_eq_true,decide_eq_true_eq]at h1 ho;exact absurd (h1.1.symm.trans ho.1) e
    ·rw[if_neg e2]
     exact h1
   ·rintro⟨i,hi,h1⟩
    rw[List.length_set]at hi;exact⟨i,hi,(hany i hi h1).2⟩
  ·rw[List.length_set]at hi
   obtain⟨_,b⟩:=hany i hi h1;rw[atKey_del_other (kI_ne e)];exact(h.2 u).2 i hi b z
theorem MapR.map {D:DataW Unit}{out:List St}(h:MapR D out){j k:Nat}{e:E}(hj:j<out.length)(ho:isO e.th (out.getD j s0)=true):(out.map fun s=>if isO e.th s then noteP k s e else s)=out.set j (noteP k (out.getD j s0) e):=by
 apply List.ext_getElem?;intro i;rw[List.getElem?_map,List.getElem?_set];by_cases hi:i<out.length
 ·rw[List.getElem?_eq_getElem hi]
  have e1:out.getD i s0=out[i]:=by rw[List.getD_eq_getElem?_getD,List.getElem?_eq_getElem hi];rfl
  by_cases e2:j=i
  ·subst e2
   rw[if_pos rfl,if_pos hj];rw[e1]at ho⊢;simp[ho]
  ·rw[if_neg e2]
   have:¬isO e.th out[i]=true:=fun hx=>e2 (h.only hj hi ho (by rw[e1];exact hx));simp[this]
 ·rw[List.getElem?_eq_none (by omega)]
  split
  ·rename_i e2
   subst e2;exact absurd hj hi
  ·rfl
theorem step_hit {D:DataW Unit}{out:List St}(h:MapR D out){j k:Nat}{e:E}(hj:j<out.length)(ho:isO e.th (out.getD j s0)=true):stepP out k e=out.set j (noteP k (out.getD j s0) e):=by
 unfold stepP;rw[if_pos ((any_iff _ _).2 ⟨j,hj,ho⟩),h.map hj ho]
theorem step_new {out:List St}{k:Nat}{e:E}(h:out.any (isO e.th)=false)(h1:e.kind=1):stepP out k e=out++ [⟨e.th,e.rd,k,-1,-1,-1,0⟩]:=by
 unfold stepP;rw[h,if_neg (by simp),if_pos h1]
theorem step_none {out:List St}{k:Nat}{e:E}(h:out.any (isO e.th)=false)(h1:¬e.kind=1):stepP out k e=out:=by
 unfold stepP;rw[h,if_neg (by simp),if_neg h1]
theorem note_open {k:Nat}{s:St}{e:E}(h:¬(e.kind=4∧0≤s.ex))(t:Int):isO t (noteP k s e)=isO t s:=by
 unfold noteP;split
 ·rfl
 ·split
  ·rfl
  ·first|rfl|rw[if_neg h]
theorem note_end {k:Nat}{s:St}{e:E}(h:e.kind=4)(h2:0≤s.ex):noteB s e=true∧¬(noteP k s e).re<0:=by
 unfold noteB noteP;rw[if_neg (by omega),if_neg (by omega),if_pos ⟨h,h2⟩];exact⟨by simp[h,h2],by simp⟩
theorem stepP_len (out:List St)(k:Nat)(e:E):(stepP out k e).length≤out.length+1:=by
 unfold stepP;split
 ·rw[List.length_map];omega
 ·split
  ·rw[List.length_append];simp
  ·omega
theorem outP_len (l:List E):∀k,(outP l k).length≤k
 |0=>Nat.le_refl _
 |k+1=>by
  have:=outP_len l k;have:=stepP_len (outP l k) k (l.getD k e0);show(stepP (outP l k) k (l.getD k e0)).length≤_;omega
end Go.Proofs.YtfmiioddhpkdkaaGreat.Sp
