/- Merged texts: Arena3, Arena4, Upd, Ata, Keep, Spot, LokP, LokR, LokW, Ta1. -/
import Derived.Test.YtfmiioddhpkdkaaGreatWz4
import Derived.Maps.AppendAt
set_option linter.unusedVariables false
set_option linter.unusedSimpArgs false
set_option maxRecDepth 100000
set_option maxHeartbeats 8000000
namespace Go.Proofs.YtfmiioddhpkdkaaGreat.Ara
open Go.RowKit
def Ar.has (σ:Ar)(p:Int):Bool:=decide (1≤p)&&decide (p≤σ.t)
def Ar.get (σ:Ar)(p:Int):Int:=if σ.has p then σ.ws.getD (p-1).toNat 0 else 0
def Ar.op (σ:Ar)(kind p:Int)(wrote:Bool)(v:Int):Ar:=if σ.has p then σ.did kind p wrote (if wrote then σ.ws.set (p-1).toNat v else σ.ws)else σ
theorem Ar.has_in {σ:Ar}{k:Nat}(h:k<σ.t):σ.has ((k:Int)+1)=true:=by simp[Ar.has];omega
theorem Ar.get_in {σ:Ar}{k:Nat}(h:k<σ.t):σ.get ((k:Int)+1)=σ.ws.getD k 0:=by
 unfold Ar.get;rw[if_pos (Ar.has_in h),show((k:Int)+1-1).toNat=k by omega]
theorem Ar.op_in {σ:Ar}{k:Nat}(h:k<σ.t)(kind:Int)(wrote:Bool)(v:Int):σ.op kind ((k:Int)+1) wrote v=σ.did kind ((k:Int)+1) wrote (if wrote then σ.ws.set k v else σ.ws):=by
 unfold Ar.op;rw[if_pos (Ar.has_in h),show((k:Int)+1-1).toNat=k by omega]
theorem Ar.not_has {σ:Ar}{p:Int}(h:σ.has p=false):p<1∨(σ.t:Int)<p:=by
 simp[Ar.has]at h;omega
theorem Ar.get_out {σ:Ar}{p:Int}(h:σ.has p=false):σ.get p=0:=by unfold Ar.get;rw[if_neg (by simp[h])]
theorem Ar.op_out {σ:Ar}{p:Int}(h:σ.has p=false)(kind:Int)(wrote:Bool)(v:Int):σ.op kind p wrote v=σ:=by unfold Ar.op;rw[if_neg (by simp[h])]
theorem Ar.cases (σ:Ar)(p:Int):σ.has p=false∨∃k:Nat,k<σ.t∧p=(k:Int)+1:=by
 cases h:σ.has p
 ·exact .inl rfl
 ·right
  simp[Ar.has]at h;exact⟨(p-1).toNat,by omega,by omega⟩
theorem note_mod (g h:Nat)(kind p:Int)(wrote:Bool)(σ:Ar)(w:World)(H:ArAt w g h σ)(ho:σ.ops≤1000000):
 Calls Tryz.prog 114 #[.pointer (some ⟨g,0,none⟩),.int .i64 kind,.int .i64 p,.bool wrote] w fun e w'=>e= .returned (.tuple #[])∧ArAt w' g h (σ.did kind p wrote σ.ws)∧Mod [g,h] w w':=by
 refine(note_any g h kind p wrote σ w H ho).mono ?_;rintro e w' ⟨rfl,h1,rfl⟩;exact⟨rfl,h1,((((Mod.refl _ _).setCell (by simp) _).setCell (by simp) _).setCell (by simp) _).setCell (by simp) _⟩
section
variable(g h:Nat)(σ:Ar)(w:World)(H:ArAt w g h σ)(ho:σ.ops≤1000000)
include H ho
theorem load_in (k:Nat)(hkt:k<σ.t):Calls Tryz.prog 105 #[.pointer (some ⟨g,0,none⟩),.int .i64 ((k:Int)+1)] w fun e w'=>e= .returned (.int .i64 (σ.ws.getD k 0))∧ArAt w' g h (σ.did 1 ((k:Int)+1) false σ.ws)∧Mod [g,h] w w':=by
 have ho:=Lib.hid ho;have HH:=Lib.hid H;clear H;go_enter Tryz.func105,Tryz.ntmps105;go_wp2_with fail;refine(word_in g h k σ _ HH.out hkt).mono ?_;rintro e wx ⟨rfl,hwx⟩;obtain rfl:=hwx.symm;go_wp2_with fail;refine(note_mod g h 1 ((k:Int)+1) false σ _ HH.out ho.out).mono ?_;rintro e w1 ⟨rfl,H1,hm⟩;obtain⟨c,_,hk,fk,hne,_⟩:=H1.word k hkt;simp only[Ar.did]at hk;have HH1:=Lib.hid H1;clear H1 hne;go_wp2_with fail;refine(i_load h k _ _ hk).mono ?_;rintro e wx ⟨rfl,hwx⟩;obtain rfl:=hwx.symm;go_wp2_with fail;go_ret;exact⟨rfl,HH1.out,hm⟩
theorem store_in (k:Nat)(hkt:k<σ.t)(v:Int):Calls Tryz.prog 109 #[.pointer (some ⟨g,0,none⟩),.int .i64 ((k:Int)+1),.int .i64 v] w fun e w'=>e= .returned (.tuple #[])∧ArAt w' g h (σ.did 2 ((k:Int)+1) true (σ.ws.set k v))∧Mod [g,h] w w':=by
 have ho:=Lib.hid ho;have HH:=Lib.hid H;clear H;go_enter Tryz.func109,Tryz.ntmps109;go_wp2_with fail;refine(word_in g h k σ _ HH.out hkt).mono ?_;rintro e wx ⟨rfl,hwx⟩;obtain rfl:=hwx.symm;go_wp2_with fail;refine(note_mod g h 2 ((k:Int)+1) true σ _ HH.out ho.out).mono ?_;rintro e w1 ⟨rfl,H1,hm⟩;obtain⟨c,_,hk,fk,hne,_⟩:=H1.word k hkt;simp only[Ar.did]at hk;have HH1:=Lib.hid H1;clear H1 hne;go_wp2_with fail;refine(i_store h k _ v _ hk fk).mono ?_;rintro e w2 ⟨rfl,hw2⟩;have HF:=Lib.hid (HH1.out.put k v hkt);have HM:=hm.setCell (p:=⟨h,k,none⟩) (by simp) (.int .i64 v);rw[←hw2]at HF HM;clear hw2;go_wp2_with fail;go_end0;exact⟨rfl,HF.out,HM⟩
theorem swap_in (k:Nat)(hkt:k<σ.t)(v:Int):Calls Tryz.prog 201 #[.pointer (some ⟨g,0,none⟩),.int .i64 ((k:Int)+1),.int .i64 v] w fun e w'=>e= .returned (.int .i64 (σ.ws.getD k 0))∧ArAt w' g h (σ.did 3 ((k:Int)+1) true (σ.ws.set k v))∧Mod [g,h] w w':=by
 have ho:=Lib.hid ho;have HH:=Lib.hid H;clear H;go_enter Tryz.func201,Tryz.ntmps201;go_wp2_with fail;refine(word_in g h k σ _ HH.out hkt).mono ?_;rintro e wx ⟨rfl,hwx⟩;obtain rfl:=hwx.symm;go_wp2_with fail;refine(note_mod g h 3 ((k:Int)+1) true σ _ HH.out ho.out).mono ?_;rintro e w1 ⟨rfl,H1,hm⟩;obtain⟨c,_,hk,fk,hne,_⟩:=H1.word k hkt;simp only[Ar.did]at hk;have HH1:=Lib.hid H1;clear H1 hne;go_wp2_with fail;refine(i_swap h k _ v _ hk fk).mono ?_;rintro e w2 ⟨rfl,hw2⟩;have HF:=Lib.hid (HH1.out.put k v hkt);have HM:=hm.setCell (p:=⟨h,k,none⟩) (by simp) (.int .i64 v);rw[←hw2]at HF HM;clear hw2;go_wp2_with fail;go_ret;exact⟨rfl,HF.out,HM⟩
theorem add_in (k:Nat)(hkt:k<σ.t)(d:Int):Calls Tryz.prog 228 #[.pointer (some ⟨g,0,none⟩),.int .i64 ((k:Int)+1),.int .i64 d] w fun e w'=>e= .returned (.int .i64 (wrap64 (σ.ws.getD k 0+d)))∧ArAt w' g h (σ.did 5 ((k:Int)+1) true (σ.ws.set k (wrap64 (σ.ws.getD k 0+d))))∧Mod [g,h] w w':=by
 have ho:=Lib.hid ho;have HH:=Lib.hid H;clear H;go_enter Tryz.func228,Tryz.ntmps228;go_wp2_with fail;refine(word_in g h k σ _ HH.out hkt).mono ?_;rintro e wx ⟨rfl,hwx⟩;obtain rfl:=hwx.symm;go_wp2_with fail;refine(note_mod g h 5 ((k:Int)+1) true σ _ HH.out ho.out).mono ?_;rintro e w1 ⟨rfl,H1,hm⟩;obtain⟨c,_,hk,fk,hne,_⟩:=H1.word k hkt;simp only[Ar.did]at hk;have HH1:=Lib.hid H1;clear H1 hne;go_wp2_with fail;refine(i_add h k _ d _ hk fk).mono ?_;rintro e w2 ⟨rfl,hw2⟩;have HF:=Lib.hid (HH1.out.put k (wrap64 (σ.ws.getD k 0+d)) hkt);have HM:=hm.setCell (p:=⟨h,k,none⟩) (by simp) (.int .i64 (wrap64 (σ.ws.getD k 0+d)));rw[←hw2]at HF HM;clear hw2;go_wp2_with fail;go_ret;exact⟨rfl,HF.out,HM⟩
theorem cas_hit (k:Nat)(hkt:k<σ.t)(v:Int):Calls Tryz.prog 202 #[.pointer (some ⟨g,0,none⟩),.int .i64 ((k:Int)+1),.int .i64 (σ.ws.getD k 0),.int .i64 v] w fun e w'=>e= .returned (.bool true)∧ArAt w' g h (σ.did 4 ((k:Int)+1) true (σ.ws.set k v))∧Mod [g,h] w w':=by
 obtain⟨c,_,hk,fk,hne,_⟩:=H.word k hkt;generalize σ.ws.getD k 0=x at hk⊢;have ho:=Lib.hid ho;have HH:=Lib.hid H;clear H;go_enter Tryz.func202,Tryz.ntmps202;go_wp2_with fail;refine(word_in g h k σ _ HH.out hkt).mono ?_;rintro e wx ⟨rfl,hwx⟩;obtain rfl:=hwx.symm;go_wp2_with fail;refine(i_cas_hit h k x w hk fk v).mono ?_;rintro e w2 ⟨rfl,hw2⟩;have HF:=Lib.hid (HH.out.put k v hkt);have HM:=(Mod.refl [g,h] w).setCell (p:=⟨h,k,none⟩) (by simp) (.int .i64 v);rw[←hw2]at HF HM;clear hw2 hne;go_wp2_with fail;refine(note_mod g h 4 ((k:Int)+1) true _ _ HF.out ho.out).mono ?_;rintro e w1 ⟨rfl,H1,hm⟩;have HH1:=Lib.hid H1;clear H1;go_wp2_with fail;go_ret;exact⟨rfl,HH1.out,HM.trans hm⟩
theorem cas_miss (k:Nat)(hkt:k<σ.t)(old v:Int)(hne:σ.ws.getD k 0≠old):Calls Tryz.prog 202 #[.pointer (some ⟨g,0,none⟩),.int .i64 ((k:Int)+1),.int .i64 old,.int .i64 v] w fun e w'=>e= .returned (.bool false)∧ArAt w' g h (σ.did 4 ((k:Int)+1) false σ.ws)∧Mod [g,h] w w':=by
 obtain⟨c,_,hk,fk,hn,_⟩:=H.word k hkt;generalize σ.ws.getD k 0=x at hk hne;have ho:=Lib.hid ho;have HH:=Lib.hid H;clear H;have HN:=Lib.hid hne;clear hne hn;go_enter Tryz.func202,Tryz.ntmps202;go_wp2_with fail;refine(word_in g h k σ _ HH.out hkt).mono ?_;rintro e wx ⟨rfl,hwx⟩;obtain rfl:=hwx.symm;go_wp2_with fail;refine(i_cas_miss h k x old w hk fk v HN.out).mono ?_;rintro e wx ⟨rfl,hwx⟩;obtain rfl:=hwx.symm;go_wp2_with fail;refine(note_mod g h 4 ((k:Int)+1) false _ _ HH.out ho.out).mono ?_;rintro e w1 ⟨rfl,H1,hm⟩;have HH1:=Lib.hid H1;clear H1;go_wp2_with fail;go_ret;exact⟨rfl,HH1.out,hm⟩
end
section
variable(g h:Nat)(σ:Ar)(w:World)(p:Int)
theorem load_no (q:Option Addr)(hw:Calls Tryz.prog 113 #[.pointer q,.int .i64 p] w fun e w'=>e= .returned (.pointer none)∧w'=w):Calls Tryz.prog 105 #[.pointer q,.int .i64 p] w fun e w'=>e= .returned (.int .i64 0)∧w'=w:=by
 have HW:=Lib.hid hw;clear hw;go_enter Tryz.func105,Tryz.ntmps105;go_wp2_with fail;refine(HW.out).mono ?_;rintro e wx ⟨rfl,hwx⟩;obtain rfl:=hwx.symm;go_wp2_with fail;go_ret;exact⟨rfl,rfl⟩
theorem store_no (q:Option Addr)(v:Int)(hw:Calls Tryz.prog 113 #[.pointer q,.int .i64 p] w fun e w'=>e= .returned (.pointer none)∧w'=w):Calls Tryz.prog 109 #[.pointer q,.int .i64 p,.int .i64 v] w fun e w'=>e= .returned (.tuple #[])∧w'=w:=by
 have HW:=Lib.hid hw;clear hw;go_enter Tryz.func109,Tryz.ntmps109;go_wp2_with fail;refine(HW.out).mono ?_;rintro e wx ⟨rfl,hwx⟩;obtain rfl:=hwx.symm;go_wp2_with fail;go_end0;exact⟨rfl,rfl⟩
theorem swap_no (q:Option Addr)(v:Int)(hw:Calls Tryz.prog 113 #[.pointer q,.int .i64 p] w fun e w'=>e= .returned (.pointer none)∧w'=w):Calls Tryz.prog 201 #[.pointer q,.int .i64 p,.int .i64 v] w fun e w'=>e= .returned (.int .i64 0)∧w'=w:=by
 have HW:=Lib.hid hw;clear hw;go_enter Tryz.func201,Tryz.ntmps201;go_wp2_with fail;refine(HW.out).mono ?_;rintro e wx ⟨rfl,hwx⟩;obtain rfl:=hwx.symm;go_wp2_with fail;go_ret;exact⟨rfl,rfl⟩
theorem add_no (q:Option Addr)(v:Int)(hw:Calls Tryz.prog 113 #[.pointer q,.int .i64 p] w fun e w'=>e= .returned (.pointer none)∧w'=w):Calls Tryz.prog 228 #[.pointer q,.int .i64 p,.int .i64 v] w fun e w'=>e= .returned (.int .i64 0)∧w'=w:=by
 have HW:=Lib.hid hw;clear hw;go_enter Tryz.func228,Tryz.ntmps228;go_wp2_with fail;refine(HW.out).mono ?_;rintro e wx ⟨rfl,hwx⟩;obtain rfl:=hwx.symm;go_wp2_with fail;go_ret;exact⟨rfl,rfl⟩
theorem cas_no (q:Option Addr)(v u:Int)(hw:Calls Tryz.prog 113 #[.pointer q,.int .i64 p] w fun e w'=>e= .returned (.pointer none)∧w'=w):Calls Tryz.prog 202 #[.pointer q,.int .i64 p,.int .i64 u,.int .i64 v] w fun e w'=>e= .returned (.bool false)∧w'=w:=by
 have HW:=Lib.hid hw;clear hw;go_enter Tryz.func202,Tryz.ntmps202;go_wp2_with fail;refine(HW.out).mono ?_;rintro e wx ⟨rfl,hwx⟩;obtain rfl:=hwx.symm;go_wp2_with fail;go_ret;exact⟨rfl,rfl⟩
end
section
variable(g h:Nat)(σ:Ar)(w:World)(H:ArAt w g h σ)(ho:σ.ops≤1000000)(p:Int)
include H ho
theorem load_any:Calls Tryz.prog 105 #[.pointer (some ⟨g,0,none⟩),.int .i64 p] w fun e w'=>e= .returned (.int .i64 (σ.get p))∧ArAt w' g h (σ.op 1 p false 0)∧Mod [g,h] w w':=by
 rcases σ.cases p with hh|⟨k,hk,rfl⟩
 ·rw[Ar.get_out hh,Ar.op_out hh]
  exact(load_no w p _ (word_out g h p σ w H (Ar.not_has hh))).mono fun e w' ⟨h1,h2⟩=>⟨h1,by rw[h2];exact H,by rw[h2];exact Mod.refl _ _⟩
 ·rw[Ar.get_in hk,Ar.op_in hk]
  exact load_in g h σ w H ho k hk
theorem store_any (v:Int):Calls Tryz.prog 109 #[.pointer (some ⟨g,0,none⟩),.int .i64 p,.int .i64 v] w fun e w'=>e= .returned (.tuple #[])∧ArAt w' g h (σ.op 2 p true v)∧Mod [g,h] w w':=by
 rcases σ.cases p with hh|⟨k,hk,rfl⟩
 ·rw[Ar.op_out hh]
  exact(store_no w p _ v (word_out g h p σ w H (Ar.not_has hh))).mono fun e w' ⟨h1,h2⟩=>⟨h1,by rw[h2];exact H,by rw[h2];exact Mod.refl _ _⟩
 ·rw[Ar.op_in hk]
  exact store_in g h σ w H ho k hk v
theorem swap_any (v:Int):Calls Tryz.prog 201 #[.pointer (some ⟨g,0,none⟩),.int .i64 p,.int .i64 v] w fun e w'=>e= .returned (.int .i64 (σ.get p))∧ArAt w' g h (σ.op 3 p true v)∧Mod [g,h] w w':=by
 rcases σ.cases p with hh|⟨k,hk,rfl⟩
 ·rw[Ar.get_out hh,Ar.op_out hh]
  exact(swap_no w p _ v (word_out g h p σ w H (Ar.not_has hh))).mono fun e w' ⟨h1,h2⟩=>⟨h1,by rw[h2];exact H,by rw[h2];exact Mod.refl _ _⟩
 ·rw[Ar.get_in hk,Ar.op_in hk]
  exact swap_in g h σ w H ho k hk v
theorem add_any (d:Int):Calls Tryz.prog 228 #[.pointer (some ⟨g,0,none⟩),.int .i64 p,.int .i64 d] w fun e w'=>e= .returned (.int .i64 (if σ.has p then wrap64 (σ.get p+d)else 0))∧ArAt w' g h (σ.op 5 p true (wrap64 (σ.get p+d)))∧Mod [g,h] w w':=by
 rcases σ.cases p with hh|⟨k,hk,rfl⟩
 ·rw[Ar.op_out hh,if_neg (by simp[hh])]
  exact(add_no w p _ d (word_out g h p σ w H (Ar.not_has hh))).mono fun e w' ⟨h1,h2⟩=>⟨h1,by rw[h2];exact H,by rw[h2];exact Mod.refl _ _⟩
 ·rw[if_pos (Ar.has_in hk),Ar.get_in hk,Ar.op_in hk]
  exact add_in g h σ w H ho k hk d
theorem cas_any (old v:Int):Calls Tryz.prog 202 #[.pointer (some ⟨g,0,none⟩),.int .i64 p,.int .i64 old,.int .i64 v] w fun e w'=>e= .returned (.bool (σ.has p&&(σ.get p==old)))∧ArAt w' g h (σ.op 4 p (σ.has p&&(σ.get p==old)) v)∧Mod [g,h] w w':=by
 rcases σ.cases p with hh|⟨k,hk,rfl⟩
 ·rw[Ar.op_out hh,hh]
  exact(cas_no w p _ v old (word_out g h p σ w H (Ar.not_has hh))).mono fun e w' ⟨h1,h2⟩=>⟨h1,by rw[h2];exact H,by rw[h2];exact Mod.refl _ _⟩
 ·rw[Ar.has_in hk,Ar.get_in hk,Ar.op_in hk,Bool.true_and]
  by_cases he:σ.ws.getD k 0=old
  ·subst he
   rw[beq_self_eq_true];exact cas_hit g h σ w H ho k hk v
  ·rw[beq_eq_false_iff_ne.2 he]
   exact cas_miss g h σ w H ho k hk old v he
end
end Go.Proofs.YtfmiioddhpkdkaaGreat.Ara
namespace Go.Proofs.YtfmiioddhpkdkaaGreat.Ara
open Go.RowKit
theorem infoW:(Tryz.prog.info? 289).map (fun i=>(i.zero,i.size,i.bytes))=some (some (.agg #[.int .i64 0]),1,8):=by kernel_rfl
def zerosW (n:Nat):List Int:=List.replicate n 0
theorem zeros_flat (n:Nat):((List.replicate n ((Value.agg #[.int .i64 0]).cells.toList)).flatten).toArray=((zerosW n).map vI).toArray:=by
 congr 1
 induction n with
 |zero=>rfl
 |succ n ih=>rw[List.replicate_succ,List.flatten_cons,ih,zerosW,zerosW,List.replicate_succ,List.map_cons];rfl
theorem make_zeros (n:Nat)(h:n≤65536)(W:World):(Instr.makeSlice 106 (.int .i64 (n:Int)) (.int .i64 (n:Int))).run Tryz.prog W= .ok (.slice (some ⟨W.heap.size,0,none⟩) n n) (W.alloc (.cells ((zerosW n).map vI).toArray 289)):=by
 rw[run_make_rows (P:=Tryz.prog) 106 289 (.agg #[.int .i64 0]) 1 8 Tryz.underlying106 infoW rfl .i64 .i64 n (by omega) (by omega) W,zeros_flat]
def room (t:Int):Nat:=if t<0 then 0 else if 4096<t then 4096 else t.toNat
theorem room_le (t:Int):room t≤4096:=by unfold room;split;omega;split<;>omega
def Ar.fresh (m:Nat):Ar:=⟨zerosW m,0,0,0,0,false⟩
theorem new_in (t:Int)(w:World):
 Calls Tryz.prog 37 #[.int .i64 t] w fun e w'=>e= .returned (.pointer (some ⟨w.heap.size+1,0,none⟩))∧ArAt w' (w.heap.size+1) w.heap.size (Ar.fresh (room t))∧w'.heap.size=w.heap.size+1+1∧Below w.heap.size w w':=by
 have hfin:∀c,c≤4096→Hid (ArAt ((w.alloc (.cells ((zerosW c).map vI).toArray 289)).alloc (.cells #[.slice (some ⟨w.heap.size,0,none⟩) c c,.int .i64 0,.int .i64 0,.int .i64 0,.int .i64 0,.bool false] 110)) (w.heap.size+1) w.heap.size (Ar.fresh c)∧
  ((w.alloc (.cells ((zerosW c).map vI).toArray 289)).alloc (.cells #[.slice (some ⟨w.heap.size,0,none⟩) c c,.int .i64 0,.int .i64 0,.int .i64 0,.int .i64 0,.bool false] 110)).heap.size=w.heap.size+1+1∧
  Below w.heap.size w ((w.alloc (.cells ((zerosW c).map vI).toArray 289)).alloc (.cells #[.slice (some ⟨w.heap.size,0,none⟩) c c,.int .i64 0,.int .i64 0,.int .i64 0,.int .i64 0,.bool false] 110))):=fun c hc=>by
  have hl:(zerosW c).length=c:=by simp[zerosW]
  refine Lib.hid ⟨⟨Nat.zero_le _,by show(zerosW c).length≤4096;rw[hl];exact hc,some ⟨w.heap.size,0,none⟩,c,?_,.inr ⟨rfl,by omega,?_⟩⟩,by simp,(below_new _ _).alloc (by simp) _⟩
  ·show _=some (Obj.cells #[.slice (some ⟨w.heap.size,0,none⟩) (zerosW c).length c,.int .i64 0,.int .i64 0,.int .i64 0,.int .i64 0,.bool false] _ _)
   rw[hl];exact heap_alloc2_new _ _ _
  ·exact heap_alloc2_old _ _ _
 by_cases h0:t≤0
 ·rw[show room t=0 by unfold room;by_cases h:t<0;rw[if_pos h];rw[if_neg h,if_neg (by omega)];omega]
  have hf:=hfin 0 (by omega);clear hfin;have hmk:∀W,(Instr.makeSlice 106 (.int .i64 0) (.int .i64 0)).run Tryz.prog W= .ok (.slice (some ⟨W.heap.size,0,none⟩) 0 0) (W.alloc (.cells ((zerosW 0).map vI).toArray 289)):=fun W=>make_zeros 0 (by omega) W;have hm2:t≤4096:=by omega
  by_cases h0:t=0
  all_goals
   go_enter Tryz.func37,Tryz.ntmps37;go_wp2_with fail;go_ret;exact⟨rfl,hf.out⟩
 ·by_cases h1:4096<t
  ·rw[show room t=4096 by unfold room;rw[if_neg (by omega),if_pos h1]]
   have hf:=hfin 4096 (by omega);clear hfin;have hmk:∀W,(Instr.makeSlice 106 (.int .i64 4096) (.int .i64 4096)).run Tryz.prog W= .ok (.slice (some ⟨W.heap.size,0,none⟩) 4096 4096) (W.alloc (.cells ((zerosW 4096).map vI).toArray 289)):=fun W=>make_zeros 4096 (by omega) W;generalize hz:((zerosW 4096).map vI).toArray=zz at hmk hf;clear hz;go_enter Tryz.func37,Tryz.ntmps37;go_wp2_with fail;go_ret;exact⟨rfl,hf.out⟩
  ·obtain⟨c,rfl⟩:=Int.eq_ofNat_of_zero_le (show 0≤t by omega)
   rw[show room c=c by unfold room;rw[if_neg (by omega),if_neg h1];omega];have hf:=hfin c (by omega);clear hfin;have hmk:=fun W=>make_zeros c (by omega) W;have h1:(c:Int)≤4096:=by omega
   have h2:(0:Int)≤(c:Int):=by omega
   go_enter Tryz.func37,Tryz.ntmps37;go_wp2_with fail;go_ret;exact⟨rfl,hf.out⟩
def Ar.take (σ:Ar)(n:Int):(Int×Int)×Ar:=
 if n<0 then((0,1),σ)else if(σ.ws.length:Int)-σ.t<n then((0,3),σ)else(((σ.t:Int)+1,0),{σ with t:=σ.t+n.toNat})
theorem ArAt.taken {w:World}{g h:Nat}{σ:Ar}(k:ArAt w g h σ)(n:Nat)(hn:σ.t+n≤σ.ws.length):ArAt (w.setCell ⟨g,1,none⟩ (.int .i64 ((σ.t:Int)+n))) g h {σ with t:=σ.t+n}:=by
 obtain⟨h1,h2,A,c,h3,h4⟩:=k;refine⟨hn,h2,A,c,?_,?_⟩
 ·rw[blk_set h3]
  rfl
 ·rcases h4 with h4|⟨a,b,c⟩
  ·exact .inl h4
  ·exact .inr ⟨a,b,blk_other c b _⟩
theorem take_any (g h:Nat)(σ:Ar)(w:World)(H:ArAt w g h σ)(n:Int):
 Calls Tryz.prog 83 #[.pointer (some ⟨g,0,none⟩),.int .i64 n] w fun e w'=>e= .returned (.tuple #[.int .i64 (σ.take n).1.1,.int .i64 (σ.take n).1.2])∧ArAt w' g h (σ.take n).2∧Mod [g,h] w w':=by
 unfold Ar.take;by_cases h0:n<0
 ·rw[if_pos h0]
  go_enter Tryz.func83,Tryz.ntmps83;go_wp2_with fail;go_ret2;exact⟨rfl,H,Mod.refl _ _⟩
 rw[if_neg h0];obtain⟨m,rfl⟩:=Int.eq_ofNat_of_zero_le (show 0≤n by omega);obtain⟨A,cc,g0,g1,_,_,_,_,gf⟩:=H.heads;have f1:=gf 1;have h11:=H.1;have h22:=H.2.1;have b0:(σ.ws.length:Int)≤4096:=by omega
 have b1:(σ.t:Int)≤(σ.ws.length:Int):=by omega
 have HH:=Lib.hid H;clear gf H;by_cases h1:(σ.ws.length:Int)-σ.t<(m:Int)
 ·rw[if_pos h1]
  go_enter Tryz.func83,Tryz.ntmps83;go_wp2_with fail;go_quiet(fail);go_wp2_with fail;go_ret2;exact⟨rfl,HH.out.drewN _,(Mod.refl _ _).drewN _⟩
 ·rw[if_neg h1]
  have HT:=Lib.hid (HH.out.taken m (by omega));have b2:(m:Int)≤4096:=by omega
  go_enter Tryz.func83,Tryz.ntmps83;go_wp2_with fail;go_quiet(fail);go_wp2_with fail;go_ret2;exact⟨rfl,HT.out,((Mod.refl _ _).drewN _).setCell (by simp) _⟩
end Go.Proofs.YtfmiioddhpkdkaaGreat.Ara
namespace Go.Proofs.YtfmiioddhpkdkaaGreat
open Go.RowKit
structure Upd (B:Nat)(S:List Nat)(a w:World):Prop where
 os:w.os=a.os
 tape:w.tape=a.tape
 output:w.output=a.output
 size:a.heap.size≤w.heap.size
 block:∀k,k<B→k∉S→w.heap[k]? =a.heap[k]?
theorem Upd.trans {B:Nat}{S:List Nat}{a b c:World}(h:Upd B S a b)(k:Upd B S b c):Upd B S a c:=
 ⟨k.os.trans h.os,k.tape.trans h.tape,k.output.trans h.output,Nat.le_trans h.size k.size,fun i hi hn=>(k.block i hi hn).trans (h.block i hi hn)⟩
theorem Upd.of_below {B:Nat}{S:List Nat}{a w:World}(h:Below B a w):Upd B S a w:=⟨h.os,h.tape,h.output,h.size,fun k hk _=>h.block k hk⟩
theorem Upd.setCell {B:Nat}{S:List Nat}{a w:World}(h:Upd B S a w){p:Addr}(hp:p.block∈S∨B≤p.block)(u:Value):Upd B S a (w.setCell p u):=
 h.trans ⟨rfl,rfl,rfl,by simp[World.setCell],fun k hk hn=>Below.heap_setCell _ _ _ _ (fun e=>by
  rcases hp with hp|hp
  ·exact hn (e▸hp)
  ·omega)⟩
theorem Upd.sub {B B':Nat}{S T:List Nat}{a w:World}(h:Upd B S a w)(hB:B'≤B)(hs:∀k,k∈S→k∈T):Upd B' T a w:=
 ⟨h.os,h.tape,h.output,h.size,fun k hk hn=>h.block k (by omega) (fun e=>hn (hs k e))⟩
theorem Upd.blk {B:Nat}{S:List Nat}{a w:World}(h:Upd B S a w){g:Nat}{o:Option Obj}(hg:a.heap[g]? =o)(hB:g<B)(hn:g∉S):w.heap[g]? =o:=(h.block g hB hn).trans hg
theorem Upd.below {B B':Nat}{S:List Nat}{a w:World}(h:Upd B S a w)(hB:B'≤B)(hS:∀k∈S,B'≤k):Below B' a w:=
 ⟨h.os,h.tape,h.output,h.size,fun k hk=>h.block k (by omega) (fun e=>by have:=hS k e;omega)⟩
end Go.Proofs.YtfmiioddhpkdkaaGreat
namespace Go.Proofs.YtfmiioddhpkdkaaGreat.Ara
open Go.RowKit
theorem ArAt.upd {B:Nat}{S:List Nat}{w w':World}{g h:Nat}{σ:Ar}(k:ArAt w g h σ)(hm:Upd B S w w')(hgB:g<B)(hhB:h<B)(hg:g∉S)(hh:h∉S):ArAt w' g h σ:=by
 obtain⟨h1,h2,A,c,h3,h4⟩:=k;refine⟨h1,h2,A,c,hm.blk h3 hgB hg,?_⟩;rcases h4 with h4|⟨a,b,c⟩
 ·exact .inl h4
 ·exact .inr ⟨a,b,hm.blk c hhB hh⟩
def AtA (B:Nat)(W0 W:World)(σ:Ar):Prop:=ArAt W (B+1) B σ∧B+1+1≤W.heap.size∧Below B W0 W
section
variable(B:Nat)(W0 W:World)(σ σ':Ar)(H:AtA B W0 W σ)
include H
end
end Go.Proofs.YtfmiioddhpkdkaaGreat.Ara
namespace Go.Proofs.YtfmiioddhpkdkaaGreat
open Go.RowKit
theorem keep1 {W W':World}{p:Addr}{v:Value}(hb:Below W.heap.size W W')(h:W.cell? p=some v):W'.cell? p=some v:=(hb.cell (World.block_lt_of_cell? _ _ h)).trans h
theorem keepM {S:List Nat}{W W':World}{p:Addr}{v:Value}(hm:Mod S W W')(h:W.cell? p=some v)(hn:p.block∉S):W'.cell? p=some v:=by
 have hb:=hm.block p.block (World.block_lt_of_cell? _ _ h) hn;simpa[World.cell?,hb]using h
end Go.Proofs.YtfmiioddhpkdkaaGreat
namespace Go.Proofs.YtfmiioddhpkdkaaGreat.Lok
open Go.RowKit Ara
structure Sp where
 pc:Int
 a:Int
 b:Int
 c:Int
 deriving DecidableEq
def decSp (s:Sp):List Value:=[.int .i64 s.pc,.int .i64 s.a,.int .i64 s.b,.int .i64 s.c]
def sp0:Sp:=⟨0,0,0,0⟩
theorem flat_set {α:Type}{dec:α→List Value}{k:Nat}(hdk:∀a,(dec a).length=k)(l:List α)(i j:Nat)(hj:j<k)(a a':α)(ha:l[i]? =some a)(v:Value)(hv:dec a'=(dec a).set j v):
 (l.flatMap dec).set (i*k+j) v=(l.set i a').flatMap dec:=by
 induction l generalizing i with
 |nil=>simp at ha
 |cons y l ih=>
  cases i with
  |zero=>
   obtain rfl:y=a:=by simpa using ha
   rw[List.flatMap_cons,List.set_cons_zero,List.flatMap_cons,hv,Nat.zero_mul,Nat.zero_add,List.set_append_left _ _ (by rw[hdk];exact hj)]
  |succ i=>
   rw[List.flatMap_cons,List.set_cons_succ,List.flatMap_cons,←ih i (by simpa using ha),List.set_append_right _ _ (by rw[hdk,Nat.add_mul];omega),hdk,show(i+1)*k+j-k=i*k+j by rw[Nat.add_mul];omega]
def SpAt (W:World)(h:Nat)(sp:List Sp):Prop:=
 ∃cur:Array Value,W.heap[h]? =some (.cells cur 134 (0,0))∧cur.toList.take (sp.length*4)=sp.flatMap decSp
theorem SpAt.lt {W:World}{h:Nat}{sp:List Sp}(k:SpAt W h sp):h<W.heap.size:=by
 obtain⟨cur,h1,_⟩:=k;exact lt_of_blk h1
theorem SpAt.of_blk {W W':World}{h:Nat}{sp:List Sp}(k:SpAt W h sp)(e:W'.heap[h]? =W.heap[h]?):SpAt W' h sp:=by
 obtain⟨cur,h1,h2⟩:=k;exact⟨cur,e.trans h1,h2⟩
theorem SpAt.mod {S:List Nat}{W W':World}{h:Nat}{sp:List Sp}(k:SpAt W h sp)(hm:Mod S W W')(hh:h∉S):SpAt W' h sp:=k.of_blk (hm.block h k.lt hh)
theorem decSp_len (s:Sp):(decSp s).length=4:=rfl
theorem SpAt.cell {W:World}{h:Nat}{sp:List Sp}(k:SpAt W h sp)(i:Nat)(hi:i<sp.length)(j:Nat)(hj:j<4):W.cell? ⟨h,i*4+j,none⟩=(decSp sp[i])[j]? :=by
 obtain⟨cur,h1,h2⟩:=k;have h3:=flat_get decSp_len sp i j hj sp[i] (List.getElem?_eq_getElem hi);rw[←h2,List.getElem?_take_of_lt (by omega)]at h3
 have hl:i*4+j<cur.toList.length:=by
  have:=congrArg List.length h2;rw[List.length_take,flat_len decSp_len]at this;omega
 rw[←h3,blk_cell h1 (i*4+j) (by simpa using hl)];simp at hl;simp[hl]
theorem SpAt.cells {W:World}{h:Nat}{sp:List Sp}(k:SpAt W h sp)(i:Nat)(hi:i<sp.length):
 W.cell? ⟨h,i*4,none⟩=some (.int .i64 sp[i].pc)∧W.cell? ⟨h,i*4+1,none⟩=some (.int .i64 sp[i].a)∧W.cell? ⟨h,i*4+2,none⟩=some (.int .i64 sp[i].b)∧W.cell? ⟨h,i*4+3,none⟩=some (.int .i64 sp[i].c)∧∀j,W.frozen? ⟨h,j,none⟩=false:=by
 refine⟨k.cell i hi 0 (by omega),k.cell i hi 1 (by omega),k.cell i hi 2 (by omega),k.cell i hi 3 (by omega),fun j=> ?_⟩;obtain⟨cur,h1,_⟩:=k;exact blk_free h1 j
theorem SpAt.set {W:World}{h:Nat}{sp:List Sp}(k:SpAt W h sp)(i:Nat)(hi:i<sp.length)(j:Nat)(hj:j<4)(v:Value)(s':Sp)(hv:decSp s'=(decSp sp[i]).set j v):SpAt (W.setCell ⟨h,i*4+j,none⟩ v) h (sp.set i s'):=by
 obtain⟨cur,h1,h2⟩:=k;refine⟨cur.setIfInBounds (i*4+j) v,blk_set h1 _ _,?_⟩;rw[←flat_set decSp_len sp i j hj sp[i] s' (List.getElem?_eq_getElem hi) v hv,←h2,List.length_set,Array.toList_setIfInBounds,List.take_set]
theorem SpAt.setPc {W:World}{h:Nat}{sp:List Sp}(k:SpAt W h sp)(i:Nat)(hi:i<sp.length)(x:Int):SpAt (W.setCell ⟨h,i*4,none⟩ (.int .i64 x)) h (sp.set i {sp[i]with pc:=x}):=k.set i hi 0 (by omega) _ _ rfl
theorem SpAt.setA {W:World}{h:Nat}{sp:List Sp}(k:SpAt W h sp)(i:Nat)(hi:i<sp.length)(x:Int):SpAt (W.setCell ⟨h,i*4+1,none⟩ (.int .i64 x)) h (sp.set i {sp[i]with a:=x}):=k.set i hi 1 (by omega) _ _ rfl
theorem SpAt.setB {W:World}{h:Nat}{sp:List Sp}(k:SpAt W h sp)(i:Nat)(hi:i<sp.length)(x:Int):SpAt (W.setCell ⟨h,i*4+2,none⟩ (.int .i64 x)) h (sp.set i {sp[i]with b:=x}):=k.set i hi 2 (by omega) _ _ rfl
def spOf (sp:List Sp)(i:Int):Sp:=if 0≤i∧i<sp.length then sp.getD i.toNat sp0 else sp0
theorem spOf_in {sp:List Sp}{k:Nat}(h:k<sp.length):spOf sp (k:Int)=sp[k]:=by
 unfold spOf;rw[if_pos (by omega),Int.toNat_natCast];simp[h]
theorem spOf_out {sp:List Sp}{i:Int}(h:i<0∨(sp.length:Int)≤i):spOf sp i=sp0:=by
 unfold spOf;rw[if_neg (by omega)]
def turnB (sp:List Sp)(i fr:Int):Bool:=decide (0≤i)&&decide (i<sp.length)&&((spOf sp i).pc==fr)
def turnS (sp:List Sp)(i fr tO:Int):List Sp:=if turnB sp i fr then sp.set i.toNat {spOf sp i with pc:=tO}else sp
theorem turn_out {sp:List Sp}{i:Int}(h:i<0∨(sp.length:Int)≤i)(fr:Int):turnB sp i fr=false:=by
 unfold turnB;rcases h with h|h
 ·rw[decide_eq_false (by omega),Bool.false_and,Bool.false_and]
 ·rw[decide_eq_false (p:=i<_) (by omega),Bool.and_false,Bool.false_and]
theorem turn_in {sp:List Sp}{k:Nat}(h:k<sp.length)(fr:Int):turnB sp (k:Int) fr=(sp[k].pc==fr):=by
 unfold turnB;rw[decide_eq_true (by omega),decide_eq_true (by omega),spOf_in h];rfl
theorem turnS_in {sp:List Sp}{k:Nat}(h:k<sp.length)(fr tO:Int):turnS sp (k:Int) fr tO=if sp[k].pc=fr then sp.set k {sp[k]with pc:=tO}else sp:=by
 unfold turnS;rw[turn_in h,spOf_in h,Int.toNat_natCast];simp only[beq_iff_eq]
theorem turnS_out {sp:List Sp}{i:Int}(h:i<0∨(sp.length:Int)≤i)(fr tO:Int):turnS sp i fr tO=sp:=by
 unfold turnS;rw[turn_out h,if_neg (by decide)]
theorem turnS_len (sp:List Sp)(i fr tO:Int):(turnS sp i fr tO).length=sp.length:=by
 unfold turnS;split
 ·rw[List.length_set]
 ·rfl
end Go.Proofs.YtfmiioddhpkdkaaGreat.Lok
namespace Go.Proofs.YtfmiioddhpkdkaaGreat.Lok
open Go.RowKit Ara
theorem op_has (σ:Ar)(kd p v:Int)(wr:Bool)(q:Int):(σ.op kd p wr v).has q=σ.has q:=by
 unfold Ar.op Ar.has;split<;>rfl
theorem op_t (σ:Ar)(kd p v:Int)(wr:Bool):(σ.op kd p wr v).t=σ.t:=by
 unfold Ar.op;split<;>rfl
theorem op_len (σ:Ar)(kd p v:Int)(wr:Bool):(σ.op kd p wr v).ws.length=σ.ws.length:=by
 unfold Ar.op;split
 ·cases wr
  ·rfl
  ·exact List.length_set
 ·rfl
theorem op_ops (σ:Ar)(kd p v:Int)(wr:Bool):(σ.op kd p wr v).ops=σ.ops+if σ.has p then 1 else 0:=by
 unfold Ar.op;split<;>rfl
theorem get_op (σ:Ar)(hl:σ.t≤σ.ws.length)(kd p v:Int)(wr:Bool)(q:Int):(σ.op kd p wr v).get q=if σ.has p=true∧wr=true∧q=p then v else σ.get q:=by
 unfold Ar.get;rw[op_has];unfold Ar.op;by_cases hp:σ.has p=true
 ·rw[if_pos hp]
  cases wr
  ·simp[Ar.did]
  ·by_cases hq:q=p
   ·subst hq
    have h2:=hp;simp[Ar.has]at h2;simp only[hp,if_true,Ar.did,and_self];simp only[List.getD_eq_getElem?_getD];rw[List.getElem?_set_self (by omega)];rfl
   ·simp only[hq,and_false,if_false,Ar.did,if_true]
    by_cases hh:σ.has q=true
    ·simp only[hh,if_true]
     simp[Ar.has]at hh hp;simp only[List.getD_eq_getElem?_getD];rw[List.getElem?_set_ne (by omega)]
    ·simp only[hh]
     simp
 ·rw[if_neg hp]
  simp[hp]
theorem get_read (σ:Ar)(hl:σ.t≤σ.ws.length)(kd p v:Int)(q:Int):(σ.op kd p false v).get q=σ.get q:=by
 rw[get_op σ hl];simp
theorem spOf_set {sp:List Sp}{i:Int}(h0:0≤i)(h1:i<sp.length)(s':Sp)(j:Int):spOf (sp.set i.toNat s') j=if j=i then s' else spOf sp j:=by
 unfold spOf;rw[List.length_set];by_cases hj:0≤j∧j<sp.length
 ·rw[if_pos hj,if_pos hj]
  simp only[List.getD_eq_getElem?_getD];by_cases e:j=i
  ·subst e
   rw[if_pos rfl,List.getElem?_set_self (by omega)];rfl
  ·rw[if_neg e,List.getElem?_set_ne (by omega)]
 ·rw[if_neg hj,if_neg hj,if_neg (by omega)]
theorem spOf_range {sp:List Sp}{i:Int}(h:(spOf sp i).pc≠0):0≤i∧i<sp.length:=by
 by_cases hi:0≤i∧i<sp.length
 ·exact hi
 ·exfalso
  apply h;rw[spOf_out (by omega)];rfl
theorem turn_true {sp:List Sp}{i fr:Int}(h:turnB sp i fr=true):(0≤i∧i<sp.length)∧(spOf sp i).pc=fr:=by
 simp[turnB]at h;omega
theorem spOf_turn {sp:List Sp}{i fr:Int}(tO:Int)(h:turnB sp i fr=true)(j:Int):spOf (turnS sp i fr tO) j=if j=i then {spOf sp i with pc:=tO}else spOf sp j:=by
 unfold turnS;rw[if_pos h];obtain⟨⟨h0,h1⟩,_⟩:=turn_true h;exact spOf_set h0 h1 _ j
theorem turn_no {sp:List Sp}{i fr:Int}(tO:Int)(h:turnB sp i fr=false):turnS sp i fr tO=sp:=by
 unfold turnS;rw[if_neg (by simp[h])]
end Go.Proofs.YtfmiioddhpkdkaaGreat.Lok
namespace Go.Proofs.YtfmiioddhpkdkaaGreat.Lok
open Go.RowKit Ara
structure Ac where
 kind:Int
 i:Int
structure Rnd {X C:Type}(f:X→Ac→X)(core:X→C)(wt:C→Nat)(Good:X→Prop)(Ready:C→Nat→Prop)(n:Nat):Prop where
 g:∀x c,Good x→Good (f x c)
 d:∀x (i:Nat) (k:Int),k=0∨k=2→Good x→wt (core (f x ⟨k,i⟩))<wt (core x)∨core (f x ⟨k,i⟩)=core x
 ex:∀x,Good x→0<wt (core x)→∃i,i<n∧Ready (core x) i
 go:∀x (i:Nat),Good x→Ready (core x) i→wt (core (f (f x ⟨0,i⟩) ⟨2,i⟩))<wt (core x)
section
variable {X C:Type}{f:X→Ac→X}{core:X→C}{wt:C→Nat}{Good:X→Prop}{Ready:C→Nat→Prop}{n:Nat}(h:Rnd f core wt Good Ready n)
include h
end
end Go.Proofs.YtfmiioddhpkdkaaGreat.Lok
namespace Go.Proofs.YtfmiioddhpkdkaaGreat.Lok
open Go.RowKit Ara
def Rw (B:Nat)(W:World)(A:Option Addr)(c n:Nat)(l:List Int):Prop:=W.ownsRow B 3 1 (.slice A n c) n (l.map vI)
end Go.Proofs.YtfmiioddhpkdkaaGreat.Lok
namespace Go.Proofs.YtfmiioddhpkdkaaGreat.Ta
open Go.RowKit Ara Lok
structure Par where
 word:Int
 most:Int
def LkAt (W:World)(gl ga ha hs:Nat)(P:Par)(σ:Ar)(sp:List Sp):Prop:=
 ArAt W ga ha σ∧SpAt W hs sp∧sp.length≤32∧(∃c:Nat,W.heap[gl]? =some (.cells #[.pointer (some ⟨ga,0,none⟩),.int .i64 P.word,.int .i64 P.most,.slice (some ⟨hs,0,none⟩) sp.length c] 263 (0,0)))∧gl≠ga∧gl≠ha∧gl≠hs∧hs≠ga∧hs≠ha
theorem LkAt.mod {S:List Nat}{W W':World}{gl ga ha hs:Nat}{P:Par}{σ:Ar}{sp:List Sp}(k:LkAt W gl ga ha hs P σ sp)(hm:Mod S W W')(h1:gl∉S)(h2:ga∉S)(h3:ha∉S)(h4:hs∉S):LkAt W' gl ga ha hs P σ sp:=by
 obtain⟨k1,k2,k3,⟨c,k4⟩,k5⟩:=k;exact⟨k1.mod hm h2 h3,k2.mod hm h4,k3,⟨c,hm.blk k4 h1⟩,k5⟩
theorem LkAt.same {W W':World}{gl ga ha hs:Nat}{P:Par}{σ:Ar}{sp:List Sp}(k:LkAt W gl ga ha hs P σ sp)(hb:Below W.heap.size W W'):LkAt W' gl ga ha hs P σ sp:=
 k.mod (S:=[]) (Mod.of_below hb) (by simp) (by simp) (by simp) (by simp)
theorem LkAt.drewN {W:World}{gl ga ha hs:Nat}{P:Par}{σ:Ar}{sp:List Sp}(k:LkAt W gl ga ha hs P σ sp)(n:Nat):LkAt (W.drewN n) gl ga ha hs P σ sp:=k
theorem LkAt.arena {W W':World}{gl ga ha hs:Nat}{P:Par}{σ σ':Ar}{sp:List Sp}(k:LkAt W gl ga ha hs P σ sp)(ha':ArAt W' ga ha σ')(hm:Mod [ga,ha] W W'):LkAt W' gl ga ha hs P σ' sp:=by
 obtain⟨_,k2,k3,⟨c,k4⟩,d1,d2,d3,d4,d5⟩:=k;exact⟨ha',k2.mod hm (by simp;omega),k3,⟨c,hm.blk k4 (by simp;omega)⟩,d1,d2,d3,d4,d5⟩
theorem LkAt.spots {W W':World}{gl ga ha hs:Nat}{P:Par}{σ:Ar}{sp sp':List Sp}(k:LkAt W gl ga ha hs P σ sp)(hs':SpAt W' hs sp')(hm:Mod [hs] W W')(hl:sp'.length=sp.length):LkAt W' gl ga ha hs P σ sp':=by
 obtain⟨k1,_,k3,⟨c,k4⟩,d1,d2,d3,d4,d5⟩:=k;refine⟨k1.mod hm (by simp;omega) (by simp;omega),hs',by omega,⟨c,?_⟩,d1,d2,d3,d4,d5⟩;have:=hm.blk k4 (by simp;omega);rw[hl];exact this
theorem LkAt.heads {W:World}{gl ga ha hs:Nat}{P:Par}{σ:Ar}{sp:List Sp}(k:LkAt W gl ga ha hs P σ sp):(∃c:Nat,W.cell? ⟨gl,0,none⟩=some (.pointer (some ⟨ga,0,none⟩))∧W.cell? ⟨gl,1,none⟩=some (.int .i64 P.word)∧W.cell? ⟨gl,2,none⟩=some (.int .i64 P.most)∧W.cell? ⟨gl,3,none⟩=some (.slice (some ⟨hs,0,none⟩) sp.length c))∧sp.length≤32:=by
 obtain⟨_,_,k3,⟨c,k4⟩,_⟩:=k;exact⟨⟨c,blk_cell k4 0 (by simp),blk_cell k4 1 (by simp),blk_cell k4 2 (by simp),blk_cell k4 3 (by simp)⟩,k3⟩
section
variable(gl ga ha hs:Nat)(P:Par)(σ:Ar)(sp:List Sp)(w:World)(H:LkAt w gl ga ha hs P σ sp)
include H
theorem slots_lk:Calls Tryz.prog 338 #[.pointer (some ⟨gl,0,none⟩)] w fun e w'=>e= .returned (.int .i64 sp.length)∧w'=w:=by
 obtain⟨⟨cc,q0,q1,q2,q3⟩,hl⟩:=H.heads;clear H;go_enter Tryz.func338,Tryz.ntmps338;go_wp2_with fail;go_ret;exact⟨rfl,rfl⟩
theorem spot_out_lk (i:Int)(hi:i<0∨(sp.length:Int)≤i):Calls Tryz.prog 341 #[.pointer (some ⟨gl,0,none⟩),.int .i64 i] w fun e w'=>e= .returned (.pointer none)∧w'=w:=by
 have HS:=Lib.hid (slots_lk gl ga ha hs P σ sp w H);obtain⟨⟨cc,q0,q1,q2,q3⟩,hl⟩:=H.heads;clear H;by_cases h0:i<0
 ·go_enter Tryz.func341,Tryz.ntmps341
  go_wp2_with fail;go_ret;exact⟨rfl,rfl⟩
 ·have h1:(sp.length:Int)≤i:=by omega
  go_enter Tryz.func341,Tryz.ntmps341;go_wp2_with fail;refine(HS.out).mono ?_;rintro e wx ⟨rfl,hwx⟩;obtain rfl:=hwx.symm;go_wp2_with fail;go_ret;exact⟨rfl,rfl⟩
theorem spot_in_lk (k:Nat)(hk:k<sp.length):Calls Tryz.prog 341 #[.pointer (some ⟨gl,0,none⟩),.int .i64 (k:Int)] w fun e w'=>e= .returned (.pointer (some ⟨hs,k*4,none⟩))∧w'=w:=by
 have HS:=Lib.hid (slots_lk gl ga ha hs P σ sp w H);obtain⟨⟨cc,q0,q1,q2,q3⟩,hl⟩:=H.heads;have h1:(k:Int)<(sp.length:Int):=by omega
 have h2:(0:Int)≤(k:Int):=by omega
 clear H;go_enter Tryz.func341,Tryz.ntmps341;go_wp2_with fail;refine(HS.out).mono ?_;rintro e wx ⟨rfl,hwx⟩;obtain rfl:=hwx.symm;go_wp2_with fail;go_ret;exact⟨rfl,rfl⟩
theorem Spot_lk (i:Int):Calls Tryz.prog 339 #[.pointer (some ⟨gl,0,none⟩),.int .i64 i] w fun e w'=>e= .returned (.agg #[.int .i64 (spOf sp i).pc,.int .i64 (spOf sp i).a,.int .i64 (spOf sp i).b,.int .i64 (spOf sp i).c])∧Below w.heap.size w w':=by
 by_cases hi:i<0∨(sp.length:Int)≤i
 ·rw[spOf_out hi]
  have HS:=Lib.hid (fun W K=>spot_out_lk gl ga ha hs P σ sp W K i hi);have HH:=Lib.hid (H.same (below_new w (.cells #[.int .i64 0,.int .i64 0,.int .i64 0,.int .i64 0] 134)));clear H hi;go_enter Tryz.func339,Tryz.ntmps339;go_wp2_with fail;refine(HS.out _ HH.out).mono ?_;rintro e wx ⟨rfl,hwx⟩;obtain rfl:=hwx.symm;go_wp2_with fail;exact bodyPost_ret (v:= .agg #[.int .i64 0,.int .i64 0,.int .i64 0,.int .i64 0]) (by simp[results,Tryz.results339,go_sem]) rfl ⟨rfl,(Below.refl _ _).alloc (Nat.le_refl _) _⟩
 ·obtain⟨k,rfl⟩:=Int.eq_ofNat_of_zero_le (show 0≤i by omega)
  have hk:k<sp.length:=by omega
  have HS:=Lib.hid (fun W K=>spot_in_lk gl ga ha hs P σ sp W K k hk);have HH:=Lib.hid (H.same (below_new w (.cells #[.int .i64 0,.int .i64 0,.int .i64 0,.int .i64 0] 134)));obtain⟨c0,c1,c2,c3,_⟩:=H.2.1.cells k hk;have hlt:=H.2.1.lt;have e0:=spOf_in hk;rw[e0];clear H hi e0;generalize sp[k]=s at*;obtain⟨xp,xa,xb,xc⟩:=s;simp only at c0 c1 c2 c3⊢;go_enter Tryz.func339,Tryz.ntmps339;go_wp2_with fail;refine(HS.out _ HH.out).mono ?_;rintro e wx ⟨rfl,hwx⟩;obtain rfl:=hwx.symm;go_wp2_with fail;exact bodyPost_ret (v:= .agg #[.int .i64 xp,.int .i64 xa,.int .i64 xb,.int .i64 xc]) (by simp[results,Tryz.results339,go_sem]) rfl ⟨rfl,(Below.refl _ _).alloc (Nat.le_refl _) _⟩
end
end Go.Proofs.YtfmiioddhpkdkaaGreat.Ta
