/- Merged texts: Pa4, Arena1, Arena2, Arena3, Arena4, Upd, Ata, Keep, Spot. -/
import Derived.Test.YtfmiioddhpkdkaaGreatWh4
import Derived.Laws.LoneSync
set_option linter.unusedVariables false
set_option linter.unusedSimpArgs false
namespace Go.Proofs.YtfmiioddhpkdkaaGreat.Pa
open Go.RowKit Go.Proofs.YtfmiioddhpkdkaaGreat.Tp Go.Proofs.YtfmiioddhpkdkaaGreat.Li Go.Proofs.YtfmiioddhpkdkaaGreat.De Go.Proofs.YtfmiioddhpkdkaaGreat.Ara
section
variable {gt:Nat}{w:World}(h2:w.cell? ⟨gt,2,none⟩=some (.int .u32 1))
include h2
theorem found_done:Calls Tryz.prog 102 #[.pointer (some ⟨gt,0,none⟩)] w fun e w'=>e= .returned (.pointer (some ⟨gt,0,none⟩))∧w'=w:=by
 have HD:=Lib.hid (fun fv=>On.do_done ⟨gt,2,none⟩ 1 (by decide) fv w h2);have hmf:∀(fn:Fn) (first cap:Array Value) (w:World),(Instr.makeFunc fn first cap).run Tryz.prog w= .ok (.func fn first cap) w:=fun _ _ _ _=>rfl;clear h2;go_enter Tryz.func102,Tryz.ntmps102;go_wp2_with fail;refine(HD.out _).mono ?_;rintro e wx ⟨rfl,hwx⟩;obtain rfl:=hwx.symm;go_wp2_with fail;go_ret;exact⟨rfl,rfl⟩
theorem nodes_done (A:Option Addr)(n c:Nat)(h8:w.cell? ⟨gt,8,none⟩=some (.slice A n c)):Calls Tryz.prog 81 #[.pointer (some ⟨gt,0,none⟩)] w fun e w'=>e= .returned (.int .i64 (n:Int))∧w'=w:=by
 have HF:=Lib.hid (found_done h2);go_enter Tryz.func81,Tryz.ntmps81;go_wp2_with fail;refine(HF.out).mono ?_;rintro e wx ⟨rfl,hwx⟩;obtain rfl:=hwx.symm;go_wp2_with fail;go_ret;exact⟨rfl,rfl⟩
omit h2 in
theorem threads_any (A:Option Addr)(n c:Nat)(h1:w.cell? ⟨gt,1,none⟩=some (.slice A n c)):Calls Tryz.prog 80 #[.pointer (some ⟨gt,0,none⟩)] w fun e w'=>e= .returned (.int .i64 (n:Int))∧w'=w:=by
 go_enter Tryz.func80,Tryz.ntmps80;go_wp2_with fail;go_ret;exact⟨rfl,rfl⟩
omit h2 in
theorem has_in (A:Option Addr)(n c k:Nat)(hk:k<n)(h1:w.cell? ⟨gt,1,none⟩=some (.slice A n c)):Calls Tryz.prog 103 #[.pointer (some ⟨gt,0,none⟩),.int .i64 (k:Int)] w fun e w'=>e= .returned (.bool true)∧w'=w:=by
 have HT:=Lib.hid (threads_any A n c h1);have i0:(0:Int)≤(k:Int):=by omega
 have i1:(k:Int)<(n:Int):=by omega
 go_enter Tryz.func103,Tryz.ntmps103;go_wp2_with fail;refine(HT.out).mono ?_;rintro e wx ⟨rfl,hwx⟩;obtain rfl:=hwx.symm;go_wp2_with fail;go_ret;exact⟨rfl,rfl⟩
theorem node_in (A:Option Addr)(n c k b cb:Nat)(x:Int)(hk:k<n)(h1:w.cell? ⟨gt,1,none⟩=some (.slice A n c))(h6:w.cell? ⟨gt,6,none⟩=some (.slice (some ⟨b,0,none⟩) n cb))(hx:w.cell? ⟨b,k,none⟩=some (.int .i64 x)):
 Calls Tryz.prog 89 #[.pointer (some ⟨gt,0,none⟩),.int .i64 (k:Int)] w fun e w'=>e= .returned (.int .i64 x)∧w'=w:=by
 have HH:=Lib.hid (has_in A n c k hk h1);have HF:=Lib.hid (found_done h2);have i1:(k:Int)<(n:Int):=by omega
 go_enter Tryz.func89,Tryz.ntmps89;go_wp2_with fail;refine(HH.out).mono ?_;rintro e wx ⟨rfl,hwx⟩;obtain rfl:=hwx.symm;go_wp2_with fail;refine(HF.out).mono ?_;rintro e wx ⟨rfl,hwx⟩;obtain rfl:=hwx.symm;go_wp2_with fail;go_ret;exact⟨rfl,rfl⟩
theorem slot_in (A:Option Addr)(n c k b cb:Nat)(x:Int)(hk:k<n)(h1:w.cell? ⟨gt,1,none⟩=some (.slice A n c))(h6:w.cell? ⟨gt,7,none⟩=some (.slice (some ⟨b,0,none⟩) n cb))(hx:w.cell? ⟨b,k,none⟩=some (.int .i64 x)):
 Calls Tryz.prog 87 #[.pointer (some ⟨gt,0,none⟩),.int .i64 (k:Int)] w fun e w'=>e= .returned (.int .i64 x)∧w'=w:=by
 have HH:=Lib.hid (has_in A n c k hk h1);have HF:=Lib.hid (found_done h2);have i1:(k:Int)<(n:Int):=by omega
 go_enter Tryz.func87,Tryz.ntmps87;go_wp2_with fail;refine(HH.out).mono ?_;rintro e wx ⟨rfl,hwx⟩;obtain rfl:=hwx.symm;go_wp2_with fail;refine(HF.out).mono ?_;rintro e wx ⟨rfl,hwx⟩;obtain rfl:=hwx.symm;go_wp2_with fail;go_ret;exact⟨rfl,rfl⟩
theorem mates_in (A:Option Addr)(n c k b cb:Nat)(x:Int)(hk:k<n)(h6:w.cell? ⟨gt,8,none⟩=some (.slice (some ⟨b,0,none⟩) n cb))(hx:w.cell? ⟨b,k,none⟩=some (.int .i64 x)):
 Calls Tryz.prog 82 #[.pointer (some ⟨gt,0,none⟩),.int .i64 (k:Int)] w fun e w'=>e= .returned (.int .i64 x)∧w'=w:=by
 have HN:=Lib.hid (nodes_done h2 _ n cb h6);have HF:=Lib.hid (found_done h2);have i1:(k:Int)<(n:Int):=by omega
 have i0:¬(k:Int)<0:=by omega
 go_enter Tryz.func82,Tryz.ntmps82;go_wp2_with fail;refine(HN.out).mono ?_;rintro e wx ⟨rfl,hwx⟩;obtain rfl:=hwx.symm;go_wp2_with fail;refine(HF.out).mono ?_;rintro e wx ⟨rfl,hwx⟩;obtain rfl:=hwx.symm;go_wp2_with fail;go_ret;exact⟨rfl,rfl⟩
end
def FoAft (p t:List Int)(w:World)(gt:Nat)(A B:Value)(w':World):Prop:=
 ∃vu gn cn gs cs gm,TbB w' gt A B 1 0 vu (.slice (some ⟨gn,0,none⟩) t.length cn) (.slice (some ⟨gs,0,none⟩) t.length cs) (.slice (some ⟨gm,0,none⟩) (lvs p).length (lvs p).length)∧Rw w' gn (ndL p t t.length)∧Rw w' gs (slL t t.length)∧Rw w' gm (mtL p t t.length)∧
  Mod [gt] w w'∧(w.heap.size≤gn∧w.heap.size≤gs∧w.heap.size≤gm)∧gn<w'.heap.size∧gs<w'.heap.size∧gm<w'.heap.size
section
variable(p t:List Int)(h:chk p t=0)(gt pb tb c d:Nat)(w:World)(hT:TbB w gt (slA pb p c) (slA tb t d) 0 0 nilV nilV nilV nilV)(hp:Rw w pb p)(ht:Rw w tb t)(hn:pb≠gt∧tb≠gt)(hl:pb<w.heap.size∧tb<w.heap.size)
include h hT hp ht hn hl
theorem found_first:Calls Tryz.prog 102 #[.pointer (some ⟨gt,0,none⟩)] w fun e w'=>e= .returned (.pointer (some ⟨gt,0,none⟩))∧FoAft p t w gt (slA pb p c) (slA tb t d) w':=by
 have hm:Mod [gt] w (w.setCell ⟨gt,3,none⟩ (.int .i32 1)):=(Mod.refl _ _).setCell (by simp) _;have hT1:TbB (w.setCell ⟨gt,3,none⟩ (.int .i32 1)) gt (slA pb p c) (slA tb t d) 0 1 nilV nilV nilV nilV:=by have:=blk_set hT 3 (.int .i32 1);simpa[TbB]using this
 have hf:=find_any p t h gt pb tb c d _ hT1 (hp.mod hm hl.1 (by simp;exact hn.1)) (ht.mod hm hl.2 (by simp;exact hn.2)) hn ⟨Nat.lt_of_lt_of_le hl.1 hm.size,Nat.lt_of_lt_of_le hl.2 hm.size⟩;obtain⟨c0,c1,c2,c3,_,_,_,_,fz⟩:=hT.cells;have hgt:=lt_of_blk hT;have hsz:=hm.size
 have hD:=On.do_first gt w c2 c3 (fz 3) (FdAft p t (w.setCell ⟨gt,3,none⟩ (.int .i32 1)) gt (slA pb p c) (slA tb t d)) (hf.mono fun e w' ⟨h1,h2⟩=>by
  have h3:=h2;obtain⟨vu,gn,cn,gs,cs,gm,hb,_⟩:=h3;obtain⟨_,_,d2,d3,_,_,_,_,fz'⟩:=hb.cells;exact⟨h1,h2,d2,d3,fz' 2,fz' 3⟩)
 have HD:=Lib.hid hD;have hmf:∀(fn:Fn) (first cap:Array Value) (w:World),(Instr.makeFunc fn first cap).run Tryz.prog w= .ok (.func fn first cap) w:=fun _ _ _ _=>rfl;have HM:=Lib.hid hm;have HN:=Lib.hid hn;clear hD hf hT1 hm hp ht c0 c1 c2 c3 fz hT hn;go_enter Tryz.func102,Tryz.ntmps102;go_wp2_with fail;refine HD.out.mono ?_;rintro e w2 ⟨rfl,W,⟨vu,gn,cn,gs,cs,gm,hb,r1,r2,r3,hmd,ho,b1,b2,b3⟩,rfl⟩;have hsW:=hmd.size
 have HX:=Lib.hid (show FoAft p t w gt (slA pb p c) (slA tb t d) ((W.drew.setCell ⟨gt,2,none⟩ (.int .u32 1)).setCell ⟨gt,3,none⟩ (.int .i32 0)) from by
  have hm2:Mod [gt] W ((W.drew.setCell ⟨gt,2,none⟩ (.int .u32 1)).setCell ⟨gt,3,none⟩ (.int .i32 0)):=(((Mod.refl [gt] W).drew.setCell (p:=⟨gt,2,none⟩) (by simp) _).setCell (p:=⟨gt,3,none⟩) (by simp) _)
  have hb2:TbB ((W.drew.setCell ⟨gt,2,none⟩ (.int .u32 1)).setCell ⟨gt,3,none⟩ (.int .i32 0)) gt (slA pb p c) (slA tb t d) 1 0 vu (.slice (some ⟨gn,0,none⟩) t.length cn) (.slice (some ⟨gs,0,none⟩) t.length cs) (.slice (some ⟨gm,0,none⟩) (lvs p).length (lvs p).length):=by
   have h1:=blk_set (w:=W.drew) hb 2 (.int .u32 1);have h2:=blk_set h1 3 (.int .i32 0);simpa[TbB]using h2
  refine⟨vu,gn,cn,gs,cs,gm,hb2,r1.mod hm2 b1 (by simp;omega),r2.mod hm2 b2 (by simp;omega),r3.mod hm2 b3 (by simp;omega),(HM.out.trans hmd).trans hm2,⟨by omega,by omega,by omega⟩,Nat.lt_of_lt_of_le b1 hm2.size,Nat.lt_of_lt_of_le b2 hm2.size,Nat.lt_of_lt_of_le b3 hm2.size⟩)
 clear hb r1 r2 r3 hmd;go_wp2_with fail;go_ret;exact⟨rfl,HX.out⟩
theorem nodes_first:Calls Tryz.prog 81 #[.pointer (some ⟨gt,0,none⟩)] w fun e w'=>e= .returned (.int .i64 ((lvs p).length:Int))∧FoAft p t w gt (slA pb p c) (slA tb t d) w':=by
 have HF:=Lib.hid (found_first p t h gt pb tb c d w hT hp ht hn hl);clear h hT hp ht hn hl;go_enter Tryz.func81,Tryz.ntmps81;go_wp2_with fail;refine HF.out.mono ?_;rintro e w2 ⟨rfl,hX⟩;have HX:=Lib.hid hX;obtain⟨vu,gn,cn,gs,cs,gm,hb,_⟩:=hX;have c8:=hb.cells.2.2.2.2.2.2.2.1;clear hb;go_wp2_with fail;go_ret;exact⟨rfl,HX.out⟩
end
end Go.Proofs.YtfmiioddhpkdkaaGreat.Pa
namespace Go.Proofs.YtfmiioddhpkdkaaGreat.Ara
open Go.RowKit
section
variable {a:Addr}{x y v:Int}{W:World}
theorem at_load (hc:W.cell? a=some (.int .i64 x)):
 (callFunc 121 #[.pointer (some a)]).run Tryz.prog W= .ok (.value (.int .i64 x)) W:=
 run_call_load Tryz.func121 (by kernel_rfl) (by kernel_rfl) (by kernel_rfl) .i64 (by kernel_rfl) hc
theorem at_store (hc:W.cell? a=some (.int .i64 x))(hz:W.frozen? a=false):
 (callFunc 122 #[.pointer (some a),.int .i64 y]).run Tryz.prog W= .ok (.value (.tuple #[])) (W.setCell a (.int .i64 y)):=
 run_call_store Tryz.func122 (by kernel_rfl) (by kernel_rfl) (by kernel_rfl) (by kernel_rfl) hc hz
theorem at_add (hc:W.cell? a=some (.int .i64 x))(hz:W.frozen? a=false):
 (callFunc 235 #[.pointer (some a),.int .i64 y]).run Tryz.prog W= .ok (.value (.int .i64 (IntKind.i64.wrap (x+y)))) (W.setCell a (.int .i64 (IntKind.i64.wrap (x+y)))):=
 run_call_add Tryz.func235 (by kernel_rfl) (by kernel_rfl) (by kernel_rfl) .i64 (by kernel_rfl) hc hz (by simp[go_sem])
theorem at_cas_hit (hc:W.cell? a=some (.int .i64 x))(hz:W.frozen? a=false):
 (callFunc 206 #[.pointer (some a),.int .i64 x,.int .i64 v]).run Tryz.prog W= .ok (.value (.bool true)) (W.setCell a (.int .i64 v)):=
 run_call_cas_hit Tryz.func206 (by kernel_rfl) (by kernel_rfl) (by kernel_rfl) .i64 (by kernel_rfl) hc hz
theorem at_cas_miss (hc:W.cell? a=some (.int .i64 x))(hz:W.frozen? a=false)(hne:x≠y):
 (callFunc 206 #[.pointer (some a),.int .i64 y,.int .i64 v]).run Tryz.prog W= .ok (.value (.bool false)) W:=
 run_call_cas_miss Tryz.func206 (by kernel_rfl) (by kernel_rfl) (by kernel_rfl) .i64 (by kernel_rfl) hc hz hne
theorem at_swap (hc:W.cell? a=some (.int .i64 x))(hz:W.frozen? a=false):
 (callFunc 205 #[.pointer (some a),.int .i64 y]).run Tryz.prog W= .ok (.value (.int .i64 x)) (W.setCell a (.int .i64 y)):=by
 rw[run_callFunc_extern Tryz.func205 (by kernel_rfl) (by kernel_rfl) (by kernel_rfl) (e:=Extern.Atomic.swapT (.int .i64)) (by kernel_rfl)]
 change(Sem.run Tryz.prog (do
  let a'←asAddr (.pointer (some a))
  let old←Extern.Atomic.read (.int .i64) a'
  store a' (.int .i64 y) .atomic
  pure old) W).andThen _=_
 simp[Extern.Atomic.read,asAddr,hc,hz,run_store Tryz.prog W a (.int .i64 y) .atomic rfl,Result.andThen]
end
end Go.Proofs.YtfmiioddhpkdkaaGreat.Ara
namespace Go.Proofs.YtfmiioddhpkdkaaGreat.Ara
open Go.RowKit
def vI (n:Int):Value:= .int .i64 n
structure Ar where
 ws:List Int
 t:Nat
 ops:Nat
 kind:Int
 pos:Int
 wrote:Bool
 deriving DecidableEq
def arCells (A:Option Addr)(c:Nat)(σ:Ar):Array Value:= #[.slice A σ.ws.length c,.int .i64 σ.t,.int .i64 σ.ops,.int .i64 σ.kind,.int .i64 σ.pos,.bool σ.wrote]
def ArAt (w:World)(g h:Nat)(σ:Ar):Prop:=
 σ.t≤σ.ws.length∧σ.ws.length≤4096∧∃A c,w.heap[g]? =some (.cells (arCells A c σ) 110 (0,0))∧
  (σ.ws=[]∨(A=some ⟨h,0,none⟩∧h≠g∧w.heap[h]? =some (.cells (σ.ws.map vI).toArray 289 (0,0))))
theorem ArAt.lt {w:World}{g h:Nat}{σ:Ar}(k:ArAt w g h σ):g<w.heap.size:=by
 obtain⟨_,_,A,c,h1,_⟩:=k;exact lt_of_blk h1
theorem ArAt.mod {S:List Nat}{w w':World}{g h:Nat}{σ:Ar}(k:ArAt w g h σ)(hm:Mod S w w')(hg:g∉S)(hh:h∉S):ArAt w' g h σ:=by
 obtain⟨h1,h2,A,c,h3,h4⟩:=k;refine⟨h1,h2,A,c,hm.blk h3 hg,?_⟩;rcases h4 with h4|⟨a,b,c⟩
 ·exact .inl h4
 ·exact .inr ⟨a,b,hm.blk c hh⟩
theorem ArAt.step {w w':World}{g h:Nat}{σ:Ar}(k:ArAt w g h σ)(hb:Below w.heap.size w w'):ArAt w' g h σ:=k.mod (S:=[]) (Mod.of_below hb) (by simp) (by simp)
theorem ArAt.drewN {w:World}{g h:Nat}{σ:Ar}(k:ArAt w g h σ)(n:Nat):ArAt (w.drewN n) g h σ:=k
def Ar.did (σ:Ar)(kind pos:Int)(wrote:Bool)(ws:List Int):Ar:=⟨ws,σ.t,σ.ops+1,kind,pos,wrote⟩
theorem ArAt.note {w:World}{g h:Nat}{σ:Ar}(k:ArAt w g h σ)(n:Nat)(kind pos:Int)(wrote:Bool)(hn:n=σ.ops+1):
 ArAt ((((w.setCell ⟨g,2,none⟩ (.int .i64 n)).setCell ⟨g,3,none⟩ (.int .i64 kind)).setCell ⟨g,4,none⟩ (.int .i64 pos)).setCell ⟨g,5,none⟩ (.bool wrote)) g h (σ.did kind pos wrote σ.ws):=by
 obtain⟨h1,h2,A,c,h3,h4⟩:=k;subst hn;refine⟨h1,h2,A,c,?_,?_⟩
 ·rw[blk_set (blk_set (blk_set (blk_set h3 _ _) _ _) _ _)]
  rfl
 ·rcases h4 with h4|⟨a,b,c⟩
  ·exact .inl h4
  ·exact .inr ⟨a,b,blk_other (blk_other (blk_other (blk_other c b _) b _) b _) b _⟩
theorem ArAt.put {w:World}{g h:Nat}{σ:Ar}(k:ArAt w g h σ)(i:Nat)(v:Int)(hi:i<σ.t):ArAt (w.setCell ⟨h,i,none⟩ (.int .i64 v)) g h {σ with ws:=σ.ws.set i v}:=by
 obtain⟨h1,h2,A,c,h3,h4⟩:=k;rcases h4 with h4|⟨rfl,b,h5⟩
 ·rw[h4]at h1
  simp at h1;omega
 ·refine⟨by simpa using h1,by simpa using h2,_,c,?_,.inr ⟨rfl,b,?_⟩⟩
  ·rw[blk_other h3 (Ne.symm b)]
   simp[arCells]
  ·rw[blk_set h5]
   simp[List.map_set,vI]
theorem ArAt.heads {w:World}{g h:Nat}{σ:Ar}(k:ArAt w g h σ):∃A c,w.cell? ⟨g,0,none⟩=some (.slice A σ.ws.length c)∧w.cell? ⟨g,1,none⟩=some (.int .i64 σ.t)∧w.cell? ⟨g,2,none⟩=some (.int .i64 σ.ops)∧
 w.cell? ⟨g,3,none⟩=some (.int .i64 σ.kind)∧w.cell? ⟨g,4,none⟩=some (.int .i64 σ.pos)∧w.cell? ⟨g,5,none⟩=some (.bool σ.wrote)∧
 (∀i,w.frozen? ⟨g,i,none⟩=false):=by
 obtain⟨h1,h2,A,c,h3,h4⟩:=k;exact⟨A,c,blk_cell h3 0 (by simp[arCells]),blk_cell h3 1 (by simp[arCells]),blk_cell h3 2 (by simp[arCells]),blk_cell h3 3 (by simp[arCells]),blk_cell h3 4 (by simp[arCells]),blk_cell h3 5 (by simp[arCells]),blk_free h3⟩
theorem ArAt.word {w:World}{g h:Nat}{σ:Ar}(k:ArAt w g h σ)(i:Nat)(hi:i<σ.t):∃c,w.cell? ⟨g,0,none⟩=some (.slice (some ⟨h,0,none⟩) σ.ws.length c)∧
 w.cell? ⟨h,i,none⟩=some (.int .i64 (σ.ws.getD i 0))∧w.frozen? ⟨h,i,none⟩=false∧h≠g∧i<σ.ws.length:=by
 obtain⟨h1,h2,A,c,h3,h4⟩:=k;rcases h4 with h4|⟨rfl,b,h5⟩
 ·rw[h4]at h1
  simp at h1;omega
 ·have hil:i<σ.ws.length:=by omega
  refine⟨c,blk_cell h3 0 (by simp[arCells]),?_,blk_free h5 i,b,hil⟩;rw[blk_cell h5 i (by simpa using hil)];simp[vI,hil]
theorem len_any (g h:Nat)(σ:Ar)(w:World)(H:ArAt w g h σ):
 Calls Tryz.prog 120 #[.pointer (some ⟨g,0,none⟩)] w fun e w'=>e= .returned (.int .i64 σ.t)∧w'=w:=by
 obtain⟨A,cc,_,g1,_⟩:=H.heads;clear H;go_enter Tryz.func120,Tryz.ntmps120;go_wp2_with fail;go_ret;exact⟨rfl,rfl⟩
set_option maxRecDepth 100000 in
theorem word_in (g h k:Nat)(σ:Ar)(w:World)(H:ArAt w g h σ)(hkt:k<σ.t):
 Calls Tryz.prog 113 #[.pointer (some ⟨g,0,none⟩),.int .i64 ((k:Int)+1)] w fun e w'=>e= .returned (.pointer (some ⟨h,k,none⟩))∧w'=w:=by
 have HL:=Lib.hid (len_any g h σ w H);obtain⟨c,g0,hk,fk,hne,hlen⟩:=H.word k hkt;have t1:(k:Int)+1≤(σ.t:Int):=by omega
 have t2:(1:Int)≤(k:Int)+1:=by omega
 have t3:(k:Int)<(σ.ws.length:Int):=by omega
 have t5:(k:Int)+1≤4096:=by have:=H.1;have:=H.2.1;omega
 clear H hk fk hlen;go_enter Tryz.func113,Tryz.ntmps113;go_wp2_with fail;refine(HL.out).mono ?_;rintro e wx ⟨rfl,hwx⟩;obtain rfl:=hwx.symm;go_wp2_with fail;go_ret;exact⟨rfl,rfl⟩
theorem word_out (g h:Nat)(p:Int)(σ:Ar)(w:World)(H:ArAt w g h σ)(hp:p<1∨(σ.t:Int)<p):
 Calls Tryz.prog 113 #[.pointer (some ⟨g,0,none⟩),.int .i64 p] w fun e w'=>e= .returned (.pointer none)∧w'=w:=by
 have HL:=Lib.hid (len_any g h σ w H);by_cases h0:p<1
 ·go_enter Tryz.func113,Tryz.ntmps113
  go_wp2_with fail;go_ret;exact⟨rfl,rfl⟩
 ·have h1:(σ.t:Int)<p:=by omega
  go_enter Tryz.func113,Tryz.ntmps113;go_wp2_with fail;refine(HL.out).mono ?_;rintro e wx ⟨rfl,hwx⟩;obtain rfl:=hwx.symm;go_wp2_with fail;go_ret;exact⟨rfl,rfl⟩
theorem note_any (g h:Nat)(kind p:Int)(wrote:Bool)(σ:Ar)(w:World)(H:ArAt w g h σ)(ho:σ.ops≤1000000):
 Calls Tryz.prog 114 #[.pointer (some ⟨g,0,none⟩),.int .i64 kind,.int .i64 p,.bool wrote] w fun e w'=>e= .returned (.tuple #[])∧ArAt w' g h (σ.did kind p wrote σ.ws)∧w'=(((w.setCell ⟨g,2,none⟩ (.int .i64 ((σ.ops:Int)+1))).setCell ⟨g,3,none⟩ (.int .i64 kind)).setCell ⟨g,4,none⟩ (.int .i64 p)).setCell ⟨g,5,none⟩ (.bool wrote):=by
 have HN:=Lib.hid (H.note (σ.ops+1) kind p wrote rfl);obtain⟨A,cc,g0,g1,g2,g3,g4,g5,gf⟩:=H.heads;have f2:=gf 2;have f3:=gf 3;have f4:=gf 4;have f5:=gf 5;have t4:(σ.ops:Int)≤1000000:=by omega
 have t5:(0:Int)≤(σ.ops:Int):=by omega
 clear gf H ho;go_enter Tryz.func114,Tryz.ntmps114;go_wp2_with fail;go_end0;exact⟨rfl,HN.out,rfl⟩
section
variable(b k:Nat)(x y:Int)(w:World)(hc:w.cell? ⟨b,k,none⟩=some (.int .i64 x))(hz:w.frozen? ⟨b,k,none⟩=false)
include hc
theorem i_load:Calls Tryz.prog 115 #[.pointer (some ⟨b,k,none⟩)] w fun e w'=>e= .returned (.int .i64 x)∧w'=w:=by
 have ax:=at_load hc;go_enter Tryz.func115,Tryz.ntmps115;go_wp2_with fail;go_ret;exact⟨rfl,rfl⟩
include hz
theorem i_store:Calls Tryz.prog 116 #[.pointer (some ⟨b,k,none⟩),.int .i64 y] w fun e w'=>e= .returned (.tuple #[])∧w'=w.setCell ⟨b,k,none⟩ (.int .i64 y):=by
 have ax:=at_store (y:=y) hc hz;go_enter Tryz.func116,Tryz.ntmps116;go_wp2_with fail;go_end0;exact⟨rfl,rfl⟩
theorem i_swap:Calls Tryz.prog 203 #[.pointer (some ⟨b,k,none⟩),.int .i64 y] w fun e w'=>e= .returned (.int .i64 x)∧w'=w.setCell ⟨b,k,none⟩ (.int .i64 y):=by
 have ax:=at_swap (y:=y) hc hz;go_enter Tryz.func203,Tryz.ntmps203;go_wp2_with fail;go_ret;exact⟨rfl,rfl⟩
theorem i_add:Calls Tryz.prog 233 #[.pointer (some ⟨b,k,none⟩),.int .i64 y] w fun e w'=>e= .returned (.int .i64 (wrap64 (x+y)))∧w'=w.setCell ⟨b,k,none⟩ (.int .i64 (wrap64 (x+y))):=by
 have ax:=at_add (y:=y) hc hz;go_enter Tryz.func233,Tryz.ntmps233;go_wp2_with fail;go_ret;exact⟨rfl,rfl⟩
theorem i_cas_hit (v:Int):Calls Tryz.prog 204 #[.pointer (some ⟨b,k,none⟩),.int .i64 x,.int .i64 v] w fun e w'=>e= .returned (.bool true)∧w'=w.setCell ⟨b,k,none⟩ (.int .i64 v):=by
 have ax:=at_cas_hit (v:=v) hc hz;go_enter Tryz.func204,Tryz.ntmps204;go_wp2_with fail;go_ret;exact⟨rfl,rfl⟩
theorem i_cas_miss (v:Int)(hne:x≠y):Calls Tryz.prog 204 #[.pointer (some ⟨b,k,none⟩),.int .i64 y,.int .i64 v] w fun e w'=>e= .returned (.bool false)∧w'=w:=by
 have ax:=at_cas_miss (v:=v) hc hz hne;go_enter Tryz.func204,Tryz.ntmps204;go_wp2_with fail;go_ret;exact⟨rfl,rfl⟩
end
end Go.Proofs.YtfmiioddhpkdkaaGreat.Ara
namespace Go.Proofs.YtfmiioddhpkdkaaGreat.Ara
open Go.RowKit
def Ar.has (σ:Ar)(p:Int):Bool:=decide (1≤p)&&decide (p≤σ.t)
def Ar.get (σ:Ar)(p:Int):Int:=if σ.has p then σ.ws.getD (p-1).toNat 0 else 0
def Ar.op (σ:Ar)(kind p:Int)(wrote:Bool)(v:Int):Ar:=if σ.has p then σ.did kind p wrote (if wrote then σ.ws.set (p-1).toNat v else σ.ws)else σ
theorem Ar.has_in {σ:Ar}{k:Nat}(h:k<σ.t):σ.has ((k:Int)+1)=true:=by simp[Ar.has];omega
theorem Ar.get_in {σ:Ar}{k:Nat}(h:k<σ.t):σ.get ((k:Int)+1)=σ.ws.getD k 0:=by
 unfold Ar.get;rw[if_pos (Ar.has_in h),show((k:Int)+1-1).toNat=k by omega]
theorem Ar.op_in {σ:Ar}{k:Nat}(h:k<σ.t)(kind:Int)(wrote:Bool)(v:Int):σ.op kind ((k:Int)+1) wrote v=σ.did kind ((k:Int)+1) wrote (if wrote then σ.ws.set k v else σ.ws):=by
 unfold Ar.op;rw[if_pos (Ar.has_in h),show((k:Int)+1-1).toNat=k by omega]
theorem Ar.not_has {σ:Ar}{p:Int}(h:σ.has p=false):p<1∨(σ.t:Int)<p:=by
 simp[Ar.has]at h;omega
theorem Ar.get_out {σ:Ar}{p:Int}(h:σ.has p=false):σ.get p=0:=by unfold Ar.get;rw[if_neg (by simp[h])]
theorem Ar.op_out {σ:Ar}{p:Int}(h:σ.has p=false)(kind:Int)(wrote:Bool)(v:Int):σ.op kind p wrote v=σ:=by unfold Ar.op;rw[if_neg (by simp[h])]
theorem Ar.cases (σ:Ar)(p:Int):σ.has p=false∨∃k:Nat,k<σ.t∧p=(k:Int)+1:=by
 cases h:σ.has p
 ·exact .inl rfl
 ·right
  simp[Ar.has]at h;exact⟨(p-1).toNat,by omega,by omega⟩
theorem note_mod (g h:Nat)(kind p:Int)(wrote:Bool)(σ:Ar)(w:World)(H:ArAt w g h σ)(ho:σ.ops≤1000000):
 Calls Tryz.prog 114 #[.pointer (some ⟨g,0,none⟩),.int .i64 kind,.int .i64 p,.bool wrote] w fun e w'=>e= .returned (.tuple #[])∧ArAt w' g h (σ.did kind p wrote σ.ws)∧Mod [g,h] w w':=by
 refine(note_any g h kind p wrote σ w H ho).mono ?_;rintro e w' ⟨rfl,h1,rfl⟩;exact⟨rfl,h1,((((Mod.refl _ _).setCell (by simp) _).setCell (by simp) _).setCell (by simp) _).setCell (by simp) _⟩
section
variable(g h:Nat)(σ:Ar)(w:World)(H:ArAt w g h σ)(ho:σ.ops≤1000000)
include H ho
theorem load_in (k:Nat)(hkt:k<σ.t):Calls Tryz.prog 105 #[.pointer (some ⟨g,0,none⟩),.int .i64 ((k:Int)+1)] w fun e w'=>e= .returned (.int .i64 (σ.ws.getD k 0))∧ArAt w' g h (σ.did 1 ((k:Int)+1) false σ.ws)∧Mod [g,h] w w':=by
 have ho:=Lib.hid ho;have HH:=Lib.hid H;clear H;go_enter Tryz.func105,Tryz.ntmps105;go_wp2_with fail;refine(word_in g h k σ _ HH.out hkt).mono ?_;rintro e wx ⟨rfl,hwx⟩;obtain rfl:=hwx.symm;go_wp2_with fail;refine(note_mod g h 1 ((k:Int)+1) false σ _ HH.out ho.out).mono ?_;rintro e w1 ⟨rfl,H1,hm⟩;obtain⟨c,_,hk,fk,hne,_⟩:=H1.word k hkt;simp only[Ar.did]at hk;have HH1:=Lib.hid H1;clear H1 hne;go_wp2_with fail;refine(i_load h k _ _ hk).mono ?_;rintro e wx ⟨rfl,hwx⟩;obtain rfl:=hwx.symm;go_wp2_with fail;go_ret;exact⟨rfl,HH1.out,hm⟩
theorem store_in (k:Nat)(hkt:k<σ.t)(v:Int):Calls Tryz.prog 109 #[.pointer (some ⟨g,0,none⟩),.int .i64 ((k:Int)+1),.int .i64 v] w fun e w'=>e= .returned (.tuple #[])∧ArAt w' g h (σ.did 2 ((k:Int)+1) true (σ.ws.set k v))∧Mod [g,h] w w':=by
 have ho:=Lib.hid ho;have HH:=Lib.hid H;clear H;go_enter Tryz.func109,Tryz.ntmps109;go_wp2_with fail;refine(word_in g h k σ _ HH.out hkt).mono ?_;rintro e wx ⟨rfl,hwx⟩;obtain rfl:=hwx.symm;go_wp2_with fail;refine(note_mod g h 2 ((k:Int)+1) true σ _ HH.out ho.out).mono ?_;rintro e w1 ⟨rfl,H1,hm⟩;obtain⟨c,_,hk,fk,hne,_⟩:=H1.word k hkt;simp only[Ar.did]at hk;have HH1:=Lib.hid H1;clear H1 hne;go_wp2_with fail;refine(i_store h k _ v _ hk fk).mono ?_;rintro e w2 ⟨rfl,hw2⟩;have HF:=Lib.hid (HH1.out.put k v hkt);have HM:=hm.setCell (p:=⟨h,k,none⟩) (by simp) (.int .i64 v);rw[←hw2]at HF HM;clear hw2;go_wp2_with fail;go_end0;exact⟨rfl,HF.out,HM⟩
theorem swap_in (k:Nat)(hkt:k<σ.t)(v:Int):Calls Tryz.prog 201 #[.pointer (some ⟨g,0,none⟩),.int .i64 ((k:Int)+1),.int .i64 v] w fun e w'=>e= .returned (.int .i64 (σ.ws.getD k 0))∧ArAt w' g h (σ.did 3 ((k:Int)+1) true (σ.ws.set k v))∧Mod [g,h] w w':=by
 have ho:=Lib.hid ho;have HH:=Lib.hid H;clear H;go_enter Tryz.func201,Tryz.ntmps201;go_wp2_with fail;refine(word_in g h k σ _ HH.out hkt).mono ?_;rintro e wx ⟨rfl,hwx⟩;obtain rfl:=hwx.symm;go_wp2_with fail;refine(note_mod g h 3 ((k:Int)+1) true σ _ HH.out ho.out).mono ?_;rintro e w1 ⟨rfl,H1,hm⟩;obtain⟨c,_,hk,fk,hne,_⟩:=H1.word k hkt;simp only[Ar.did]at hk;have HH1:=Lib.hid H1;clear H1 hne;go_wp2_with fail;refine(i_swap h k _ v _ hk fk).mono ?_;rintro e w2 ⟨rfl,hw2⟩;have HF:=Lib.hid (HH1.out.put k v hkt);have HM:=hm.setCell (p:=⟨h,k,none⟩) (by simp) (.int .i64 v);rw[←hw2]at HF HM;clear hw2;go_wp2_with fail;go_ret;exact⟨rfl,HF.out,HM⟩
theorem add_in (k:Nat)(hkt:k<σ.t)(d:Int):Calls Tryz.prog 228 #[.pointer (some ⟨g,0,none⟩),.int .i64 ((k:Int)+1),.int .i64 d] w fun e w'=>e= .returned (.int .i64 (wrap64 (σ.ws.getD k 0+d)))∧ArAt w' g h (σ.did 5 ((k:Int)+1) true (σ.ws.set k (wrap64 (σ.ws.getD k 0+d))))∧Mod [g,h] w w':=by
 have ho:=Lib.hid ho;have HH:=Lib.hid H;clear H;go_enter Tryz.func228,Tryz.ntmps228;go_wp2_with fail;refine(word_in g h k σ _ HH.out hkt).mono ?_;rintro e wx ⟨rfl,hwx⟩;obtain rfl:=hwx.symm;go_wp2_with fail;refine(note_mod g h 5 ((k:Int)+1) true σ _ HH.out ho.out).mono ?_;rintro e w1 ⟨rfl,H1,hm⟩;obtain⟨c,_,hk,fk,hne,_⟩:=H1.word k hkt;simp only[Ar.did]at hk;have HH1:=Lib.hid H1;clear H1 hne;go_wp2_with fail;refine(i_add h k _ d _ hk fk).mono ?_;rintro e w2 ⟨rfl,hw2⟩;have HF:=Lib.hid (HH1.out.put k (wrap64 (σ.ws.getD k 0+d)) hkt);have HM:=hm.setCell (p:=⟨h,k,none⟩) (by simp) (.int .i64 (wrap64 (σ.ws.getD k 0+d)));rw[←hw2]at HF HM;clear hw2;go_wp2_with fail;go_ret;exact⟨rfl,HF.out,HM⟩
set_option maxRecDepth 100000 in
theorem cas_hit (k:Nat)(hkt:k<σ.t)(v:Int):Calls Tryz.prog 202 #[.pointer (some ⟨g,0,none⟩),.int .i64 ((k:Int)+1),.int .i64 (σ.ws.getD k 0),.int .i64 v] w fun e w'=>e= .returned (.bool true)∧ArAt w' g h (σ.did 4 ((k:Int)+1) true (σ.ws.set k v))∧Mod [g,h] w w':=by
 obtain⟨c,_,hk,fk,hne,_⟩:=H.word k hkt;generalize σ.ws.getD k 0=x at hk⊢;have ho:=Lib.hid ho;have HH:=Lib.hid H;clear H;go_enter Tryz.func202,Tryz.ntmps202;go_wp2_with fail;refine(word_in g h k σ _ HH.out hkt).mono ?_;rintro e wx ⟨rfl,hwx⟩;obtain rfl:=hwx.symm;go_wp2_with fail;refine(i_cas_hit h k x w hk fk v).mono ?_;rintro e w2 ⟨rfl,hw2⟩;have HF:=Lib.hid (HH.out.put k v hkt);have HM:=(Mod.refl [g,h] w).setCell (p:=⟨h,k,none⟩) (by simp) (.int .i64 v);rw[←hw2]at HF HM;clear hw2 hne;go_wp2_with fail;refine(note_mod g h 4 ((k:Int)+1) true _ _ HF.out ho.out).mono ?_;rintro e w1 ⟨rfl,H1,hm⟩;have HH1:=Lib.hid H1;clear H1;go_wp2_with fail;go_ret;exact⟨rfl,HH1.out,HM.trans hm⟩
set_option maxRecDepth 100000 in
theorem cas_miss (k:Nat)(hkt:k<σ.t)(old v:Int)(hne:σ.ws.getD k 0≠old):Calls Tryz.prog 202 #[.pointer (some ⟨g,0,none⟩),.int .i64 ((k:Int)+1),.int .i64 old,.int .i64 v] w fun e w'=>e= .returned (.bool false)∧ArAt w' g h (σ.did 4 ((k:Int)+1) false σ.ws)∧Mod [g,h] w w':=by
 obtain⟨c,_,hk,fk,hn,_⟩:=H.word k hkt;generalize σ.ws.getD k 0=x at hk hne;have ho:=Lib.hid ho;have HH:=Lib.hid H;clear H;have HN:=Lib.hid hne;clear hne hn;go_enter Tryz.func202,Tryz.ntmps202;go_wp2_with fail;refine(word_in g h k σ _ HH.out hkt).mono ?_;rintro e wx ⟨rfl,hwx⟩;obtain rfl:=hwx.symm;go_wp2_with fail;refine(i_cas_miss h k x old w hk fk v HN.out).mono ?_;rintro e wx ⟨rfl,hwx⟩;obtain rfl:=hwx.symm;go_wp2_with fail;refine(note_mod g h 4 ((k:Int)+1) false _ _ HH.out ho.out).mono ?_;rintro e w1 ⟨rfl,H1,hm⟩;have HH1:=Lib.hid H1;clear H1;go_wp2_with fail;go_ret;exact⟨rfl,HH1.out,hm⟩
end
section
variable(g h:Nat)(σ:Ar)(w:World)(p:Int)
theorem load_no (q:Option Addr)(hw:Calls Tryz.prog 113 #[.pointer q,.int .i64 p] w fun e w'=>e= .returned (.pointer none)∧w'=w):Calls Tryz.prog 105 #[.pointer q,.int .i64 p] w fun e w'=>e= .returned (.int .i64 0)∧w'=w:=by
 have HW:=Lib.hid hw;clear hw;go_enter Tryz.func105,Tryz.ntmps105;go_wp2_with fail;refine(HW.out).mono ?_;rintro e wx ⟨rfl,hwx⟩;obtain rfl:=hwx.symm;go_wp2_with fail;go_ret;exact⟨rfl,rfl⟩
theorem store_no (q:Option Addr)(v:Int)(hw:Calls Tryz.prog 113 #[.pointer q,.int .i64 p] w fun e w'=>e= .returned (.pointer none)∧w'=w):Calls Tryz.prog 109 #[.pointer q,.int .i64 p,.int .i64 v] w fun e w'=>e= .returned (.tuple #[])∧w'=w:=by
 have HW:=Lib.hid hw;clear hw;go_enter Tryz.func109,Tryz.ntmps109;go_wp2_with fail;refine(HW.out).mono ?_;rintro e wx ⟨rfl,hwx⟩;obtain rfl:=hwx.symm;go_wp2_with fail;go_end0;exact⟨rfl,rfl⟩
theorem swap_no (q:Option Addr)(v:Int)(hw:Calls Tryz.prog 113 #[.pointer q,.int .i64 p] w fun e w'=>e= .returned (.pointer none)∧w'=w):Calls Tryz.prog 201 #[.pointer q,.int .i64 p,.int .i64 v] w fun e w'=>e= .returned (.int .i64 0)∧w'=w:=by
 have HW:=Lib.hid hw;clear hw;go_enter Tryz.func201,Tryz.ntmps201;go_wp2_with fail;refine(HW.out).mono ?_;rintro e wx ⟨rfl,hwx⟩;obtain rfl:=hwx.symm;go_wp2_with fail;go_ret;exact⟨rfl,rfl⟩
theorem add_no (q:Option Addr)(v:Int)(hw:Calls Tryz.prog 113 #[.pointer q,.int .i64 p] w fun e w'=>e= .returned (.pointer none)∧w'=w):Calls Tryz.prog 228 #[.pointer q,.int .i64 p,.int .i64 v] w fun e w'=>e= .returned (.int .i64 0)∧w'=w:=by
 have HW:=Lib.hid hw;clear hw;go_enter Tryz.func228,Tryz.ntmps228;go_wp2_with fail;refine(HW.out).mono ?_;rintro e wx ⟨rfl,hwx⟩;obtain rfl:=hwx.symm;go_wp2_with fail;go_ret;exact⟨rfl,rfl⟩
theorem cas_no (q:Option Addr)(v u:Int)(hw:Calls Tryz.prog 113 #[.pointer q,.int .i64 p] w fun e w'=>e= .returned (.pointer none)∧w'=w):Calls Tryz.prog 202 #[.pointer q,.int .i64 p,.int .i64 u,.int .i64 v] w fun e w'=>e= .returned (.bool false)∧w'=w:=by
 have HW:=Lib.hid hw;clear hw;go_enter Tryz.func202,Tryz.ntmps202;go_wp2_with fail;refine(HW.out).mono ?_;rintro e wx ⟨rfl,hwx⟩;obtain rfl:=hwx.symm;go_wp2_with fail;go_ret;exact⟨rfl,rfl⟩
end
section
variable(g h:Nat)(σ:Ar)(w:World)(H:ArAt w g h σ)(ho:σ.ops≤1000000)(p:Int)
include H ho
theorem load_any:Calls Tryz.prog 105 #[.pointer (some ⟨g,0,none⟩),.int .i64 p] w fun e w'=>e= .returned (.int .i64 (σ.get p))∧ArAt w' g h (σ.op 1 p false 0)∧Mod [g,h] w w':=by
 rcases σ.cases p with hh|⟨k,hk,rfl⟩
 ·rw[Ar.get_out hh,Ar.op_out hh]
  exact(load_no w p _ (word_out g h p σ w H (Ar.not_has hh))).mono fun e w' ⟨h1,h2⟩=>⟨h1,by rw[h2];exact H,by rw[h2];exact Mod.refl _ _⟩
 ·rw[Ar.get_in hk,Ar.op_in hk]
  exact load_in g h σ w H ho k hk
theorem store_any (v:Int):Calls Tryz.prog 109 #[.pointer (some ⟨g,0,none⟩),.int .i64 p,.int .i64 v] w fun e w'=>e= .returned (.tuple #[])∧ArAt w' g h (σ.op 2 p true v)∧Mod [g,h] w w':=by
 rcases σ.cases p with hh|⟨k,hk,rfl⟩
 ·rw[Ar.op_out hh]
  exact(store_no w p _ v (word_out g h p σ w H (Ar.not_has hh))).mono fun e w' ⟨h1,h2⟩=>⟨h1,by rw[h2];exact H,by rw[h2];exact Mod.refl _ _⟩
 ·rw[Ar.op_in hk]
  exact store_in g h σ w H ho k hk v
theorem swap_any (v:Int):Calls Tryz.prog 201 #[.pointer (some ⟨g,0,none⟩),.int .i64 p,.int .i64 v] w fun e w'=>e= .returned (.int .i64 (σ.get p))∧ArAt w' g h (σ.op 3 p true v)∧Mod [g,h] w w':=by
 rcases σ.cases p with hh|⟨k,hk,rfl⟩
 ·rw[Ar.get_out hh,Ar.op_out hh]
  exact(swap_no w p _ v (word_out g h p σ w H (Ar.not_has hh))).mono fun e w' ⟨h1,h2⟩=>⟨h1,by rw[h2];exact H,by rw[h2];exact Mod.refl _ _⟩
 ·rw[Ar.get_in hk,Ar.op_in hk]
  exact swap_in g h σ w H ho k hk v
theorem add_any (d:Int):Calls Tryz.prog 228 #[.pointer (some ⟨g,0,none⟩),.int .i64 p,.int .i64 d] w fun e w'=>e= .returned (.int .i64 (if σ.has p then wrap64 (σ.get p+d)else 0))∧ArAt w' g h (σ.op 5 p true (wrap64 (σ.get p+d)))∧Mod [g,h] w w':=by
 rcases σ.cases p with hh|⟨k,hk,rfl⟩
 ·rw[Ar.op_out hh,if_neg (by simp[hh])]
  exact(add_no w p _ d (word_out g h p σ w H (Ar.not_has hh))).mono fun e w' ⟨h1,h2⟩=>⟨h1,by rw[h2];exact H,by rw[h2];exact Mod.refl _ _⟩
 ·rw[if_pos (Ar.has_in hk),Ar.get_in hk,Ar.op_in hk]
  exact add_in g h σ w H ho k hk d
theorem cas_any (old v:Int):Calls Tryz.prog 202 #[.pointer (some ⟨g,0,none⟩),.int .i64 p,.int .i64 old,.int .i64 v] w fun e w'=>e= .returned (.bool (σ.has p&&(σ.get p==old)))∧ArAt w' g h (σ.op 4 p (σ.has p&&(σ.get p==old)) v)∧Mod [g,h] w w':=by
 rcases σ.cases p with hh|⟨k,hk,rfl⟩
 ·rw[Ar.op_out hh,hh]
  exact(cas_no w p _ v old (word_out g h p σ w H (Ar.not_has hh))).mono fun e w' ⟨h1,h2⟩=>⟨h1,by rw[h2];exact H,by rw[h2];exact Mod.refl _ _⟩
 ·rw[Ar.has_in hk,Ar.get_in hk,Ar.op_in hk,Bool.true_and]
  by_cases he:σ.ws.getD k 0=old
  ·subst he
   rw[beq_self_eq_true];exact cas_hit g h σ w H ho k hk v
  ·rw[beq_eq_false_iff_ne.2 he]
   exact cas_miss g h σ w H ho k hk old v he
end
end Go.Proofs.YtfmiioddhpkdkaaGreat.Ara
namespace Go.Proofs.YtfmiioddhpkdkaaGreat.Ara
open Go.RowKit
theorem frame22 {a:Act}(h:a.tmps.size=22)(hd:a.defers=[]):∃u:Nat→Value,a={tmps:= #[u 0,u 1,u 2,u 3,u 4,u 5,u 6,u 7,u 8,u 9,u 10,u 11,u 12,u 13,u 14,u 15,u 16,u 17,u 18,u 19,u 20,u 21],defers:=[]}∧∀n,a.tmps.getD n undef=u n:=by
 refine⟨fun n=>a.tmps.getD n undef,?_,fun _=>rfl⟩;have h1:=arr_lit a.tmps h;cases a with
 |mk t d=>
  simp only at hd h1;subst hd;congr 1
theorem infoW:(Tryz.prog.info? 289).map (fun i=>(i.zero,i.size,i.bytes))=some (some (.agg #[.int .i64 0]),1,8):=by kernel_rfl
theorem infoI:(Tryz.prog.info? 3).map (fun i=>(i.zero,i.size,i.bytes))=some (some (.int .i64 0),1,8):=by kernel_rfl
def zerosW (n:Nat):List Int:=List.replicate n 0
theorem zeros_flat (n:Nat):((List.replicate n ((Value.agg #[.int .i64 0]).cells.toList)).flatten).toArray=((zerosW n).map vI).toArray:=by
 congr 1
 induction n with
 |zero=>rfl
 |succ n ih=>rw[List.replicate_succ,List.flatten_cons,ih,zerosW,zerosW,List.replicate_succ,List.map_cons];rfl
theorem make_zeros (n:Nat)(h:n≤65536)(W:World):(Instr.makeSlice 106 (.int .i64 (n:Int)) (.int .i64 (n:Int))).run Tryz.prog W= .ok (.slice (some ⟨W.heap.size,0,none⟩) n n) (W.alloc (.cells ((zerosW n).map vI).toArray 289)):=by
 rw[run_make_rows (P:=Tryz.prog) 106 289 (.agg #[.int .i64 0]) 1 8 Tryz.underlying106 infoW rfl .i64 .i64 n (by omega) (by omega) W,zeros_flat]
def room (t:Int):Nat:=if t<0 then 0 else if 4096<t then 4096 else t.toNat
def Ar.fresh (m:Nat):Ar:=⟨zerosW m,0,0,0,0,false⟩
theorem new_in (t:Int)(w:World):
 Calls Tryz.prog 37 #[.int .i64 t] w fun e w'=>e= .returned (.pointer (some ⟨w.heap.size+1,0,none⟩))∧ArAt w' (w.heap.size+1) w.heap.size (Ar.fresh (room t))∧w'.heap.size=w.heap.size+1+1∧Below w.heap.size w w':=by
 have hfin:∀c,c≤4096→Hid (ArAt ((w.alloc (.cells ((zerosW c).map vI).toArray 289)).alloc (.cells #[.slice (some ⟨w.heap.size,0,none⟩) c c,.int .i64 0,.int .i64 0,.int .i64 0,.int .i64 0,.bool false] 110)) (w.heap.size+1) w.heap.size (Ar.fresh c)∧
  ((w.alloc (.cells ((zerosW c).map vI).toArray 289)).alloc (.cells #[.slice (some ⟨w.heap.size,0,none⟩) c c,.int .i64 0,.int .i64 0,.int .i64 0,.int .i64 0,.bool false] 110)).heap.size=w.heap.size+1+1∧
  Below w.heap.size w ((w.alloc (.cells ((zerosW c).map vI).toArray 289)).alloc (.cells #[.slice (some ⟨w.heap.size,0,none⟩) c c,.int .i64 0,.int .i64 0,.int .i64 0,.int .i64 0,.bool false] 110))):=fun c hc=>by
  have hl:(zerosW c).length=c:=by simp[zerosW]
  refine Lib.hid ⟨⟨Nat.zero_le _,by show(zerosW c).length≤4096;rw[hl];exact hc,some ⟨w.heap.size,0,none⟩,c,?_,.inr ⟨rfl,by omega,?_⟩⟩,by simp,(below_new _ _).alloc (by simp) _⟩
  ·show _=some (Obj.cells #[.slice (some ⟨w.heap.size,0,none⟩) (zerosW c).length c,.int .i64 0,.int .i64 0,.int .i64 0,.int .i64 0,.bool false] _ _)
   rw[hl];exact heap_alloc2_new _ _ _
  ·exact heap_alloc2_old _ _ _
 by_cases h0:t≤0
 ·rw[show room t=0 by unfold room;by_cases h:t<0;rw[if_pos h];rw[if_neg h,if_neg (by omega)];omega]
  have hf:=hfin 0 (by omega);clear hfin;have hmk:∀W,(Instr.makeSlice 106 (.int .i64 0) (.int .i64 0)).run Tryz.prog W= .ok (.slice (some ⟨W.heap.size,0,none⟩) 0 0) (W.alloc (.cells ((zerosW 0).map vI).toArray 289)):=fun W=>make_zeros 0 (by omega) W;have hm2:t≤4096:=by omega
  by_cases h0:t=0
  all_goals
   go_enter Tryz.func37,Tryz.ntmps37;go_wp2_with fail;go_ret;exact⟨rfl,hf.out⟩
 ·by_cases h1:4096<t
  ·rw[show room t=4096 by unfold room;rw[if_neg (by omega),if_pos h1]]
   have hf:=hfin 4096 (by omega);clear hfin;have hmk:∀W,(Instr.makeSlice 106 (.int .i64 4096) (.int .i64 4096)).run Tryz.prog W= .ok (.slice (some ⟨W.heap.size,0,none⟩) 4096 4096) (W.alloc (.cells ((zerosW 4096).map vI).toArray 289)):=fun W=>make_zeros 4096 (by omega) W;generalize hz:((zerosW 4096).map vI).toArray=zz at hmk hf;clear hz;go_enter Tryz.func37,Tryz.ntmps37;go_wp2_with fail;go_ret;exact⟨rfl,hf.out⟩
  ·obtain⟨c,rfl⟩:=Int.eq_ofNat_of_zero_le (show 0≤t by omega)
   rw[show room c=c by unfold room;rw[if_neg (by omega),if_neg h1];omega];have hf:=hfin c (by omega);clear hfin;have hmk:=fun W=>make_zeros c (by omega) W;have h1:(c:Int)≤4096:=by omega
   have h2:(0:Int)≤(c:Int):=by omega
   go_enter Tryz.func37,Tryz.ntmps37;go_wp2_with fail;go_ret;exact⟨rfl,hf.out⟩
def Ar.take (σ:Ar)(n:Int):(Int×Int)×Ar:=
 if n<0 then((0,1),σ)else if(σ.ws.length:Int)-σ.t<n then((0,3),σ)else(((σ.t:Int)+1,0),{σ with t:=σ.t+n.toNat})
theorem ArAt.taken {w:World}{g h:Nat}{σ:Ar}(k:ArAt w g h σ)(n:Nat)(hn:σ.t+n≤σ.ws.length):ArAt (w.setCell ⟨g,1,none⟩ (.int .i64 ((σ.t:Int)+n))) g h {σ with t:=σ.t+n}:=by
 obtain⟨h1,h2,A,c,h3,h4⟩:=k;refine⟨hn,h2,A,c,?_,?_⟩
 ·rw[blk_set h3]
  rfl
 ·rcases h4 with h4|⟨a,b,c⟩
  ·exact .inl h4
  ·exact .inr ⟨a,b,blk_other c b _⟩
theorem take_any (g h:Nat)(σ:Ar)(w:World)(H:ArAt w g h σ)(n:Int):
 Calls Tryz.prog 83 #[.pointer (some ⟨g,0,none⟩),.int .i64 n] w fun e w'=>e= .returned (.tuple #[.int .i64 (σ.take n).1.1,.int .i64 (σ.take n).1.2])∧ArAt w' g h (σ.take n).2∧Mod [g,h] w w':=by
 unfold Ar.take;by_cases h0:n<0
 ·rw[if_pos h0]
  go_enter Tryz.func83,Tryz.ntmps83;go_wp2_with fail;go_ret2;exact⟨rfl,H,Mod.refl _ _⟩
 rw[if_neg h0];obtain⟨m,rfl⟩:=Int.eq_ofNat_of_zero_le (show 0≤n by omega);obtain⟨A,cc,g0,g1,_,_,_,_,gf⟩:=H.heads;have f1:=gf 1;have h11:=H.1;have h22:=H.2.1;have b0:(σ.ws.length:Int)≤4096:=by omega
 have b1:(σ.t:Int)≤(σ.ws.length:Int):=by omega
 have HH:=Lib.hid H;clear gf H;by_cases h1:(σ.ws.length:Int)-σ.t<(m:Int)
 ·rw[if_pos h1]
  go_enter Tryz.func83,Tryz.ntmps83;go_wp2_with fail;go_quiet(fail);go_wp2_with fail;go_ret2;exact⟨rfl,HH.out.drewN _,(Mod.refl _ _).drewN _⟩
 ·rw[if_neg h1]
  have HT:=Lib.hid (HH.out.taken m (by omega));have b2:(m:Int)≤4096:=by omega
  go_enter Tryz.func83,Tryz.ntmps83;go_wp2_with fail;go_quiet(fail);go_wp2_with fail;go_ret2;exact⟨rfl,HT.out,((Mod.refl _ _).drewN _).setCell (by simp) _⟩
end Go.Proofs.YtfmiioddhpkdkaaGreat.Ara
namespace Go.Proofs.YtfmiioddhpkdkaaGreat
open Go.RowKit
structure Upd (B:Nat)(S:List Nat)(a w:World):Prop where
 os:w.os=a.os
 tape:w.tape=a.tape
 output:w.output=a.output
 size:a.heap.size≤w.heap.size
 block:∀k,k<B→k∉S→w.heap[k]? =a.heap[k]?
theorem Upd.refl (B:Nat)(S:List Nat)(w:World):Upd B S w w:=⟨rfl,rfl,rfl,Nat.le_refl _,fun _ _ _=>rfl⟩
theorem Upd.trans {B:Nat}{S:List Nat}{a b c:World}(h:Upd B S a b)(k:Upd B S b c):Upd B S a c:=
 ⟨k.os.trans h.os,k.tape.trans h.tape,k.output.trans h.output,Nat.le_trans h.size k.size,fun i hi hn=>(k.block i hi hn).trans (h.block i hi hn)⟩
theorem Upd.of_mod {B:Nat}{S:List Nat}{a w:World}(h:Mod S a w)(hB:B≤a.heap.size):Upd B S a w:=⟨h.os,h.tape,h.output,h.size,fun k hk hn=>h.block k (by omega) hn⟩
theorem Upd.of_below {B:Nat}{S:List Nat}{a w:World}(h:Below B a w):Upd B S a w:=⟨h.os,h.tape,h.output,h.size,fun k hk _=>h.block k hk⟩
theorem Upd.setCell {B:Nat}{S:List Nat}{a w:World}(h:Upd B S a w){p:Addr}(hp:p.block∈S∨B≤p.block)(u:Value):Upd B S a (w.setCell p u):=
 h.trans ⟨rfl,rfl,rfl,by simp[World.setCell],fun k hk hn=>Below.heap_setCell _ _ _ _ (fun e=>by
  rcases hp with hp|hp
  ·exact hn (e▸hp)
  ·omega)⟩
theorem Upd.drewN {B:Nat}{S:List Nat}{a w:World}(h:Upd B S a w)(n:Nat):Upd B S a (w.drewN n):=⟨h.os,h.tape,h.output,h.size,h.block⟩
theorem Upd.drew {B:Nat}{S:List Nat}{a w:World}(h:Upd B S a w):Upd B S a w.drew:=⟨h.os,h.tape,h.output,h.size,h.block⟩
theorem Upd.sub {B B':Nat}{S T:List Nat}{a w:World}(h:Upd B S a w)(hB:B'≤B)(hs:∀k,k∈S→k∈T):Upd B' T a w:=
 ⟨h.os,h.tape,h.output,h.size,fun k hk hn=>h.block k (by omega) (fun e=>hn (hs k e))⟩
theorem Upd.blk {B:Nat}{S:List Nat}{a w:World}(h:Upd B S a w){g:Nat}{o:Option Obj}(hg:a.heap[g]? =o)(hB:g<B)(hn:g∉S):w.heap[g]? =o:=(h.block g hB hn).trans hg
theorem Upd.below {B B':Nat}{S:List Nat}{a w:World}(h:Upd B S a w)(hB:B'≤B)(hS:∀k∈S,B'≤k):Below B' a w:=
 ⟨h.os,h.tape,h.output,h.size,fun k hk=>h.block k (by omega) (fun e=>by have:=hS k e;omega)⟩
end Go.Proofs.YtfmiioddhpkdkaaGreat
namespace Go.Proofs.YtfmiioddhpkdkaaGreat.Ara
open Go.RowKit
theorem ArAt.upd {B:Nat}{S:List Nat}{w w':World}{g h:Nat}{σ:Ar}(k:ArAt w g h σ)(hm:Upd B S w w')(hgB:g<B)(hhB:h<B)(hg:g∉S)(hh:h∉S):ArAt w' g h σ:=by
 obtain⟨h1,h2,A,c,h3,h4⟩:=k;refine⟨h1,h2,A,c,hm.blk h3 hgB hg,?_⟩;rcases h4 with h4|⟨a,b,c⟩
 ·exact .inl h4
 ·exact .inr ⟨a,b,hm.blk c hhB hh⟩
def AtA (B:Nat)(W0 W:World)(σ:Ar):Prop:=ArAt W (B+1) B σ∧B+1+1≤W.heap.size∧Below B W0 W
theorem AtA.base {B:Nat}{W0 W W':World}{σ:Ar}(h:AtA B W0 W σ)(hb:Below (B+1+1) W W'):AtA B W0 W' σ:=
 ⟨h.1.upd (S:=[]) (Upd.of_below hb) (by omega) (by omega) (by simp) (by simp),Nat.le_trans h.2.1 hb.size,h.2.2.trans (hb.mono (by omega))⟩
theorem AtA.same {B:Nat}{W0 W W':World}{σ:Ar}(h:AtA B W0 W σ)(hb:Below W.heap.size W W'):AtA B W0 W' σ:=h.base (hb.mono h.2.1)
theorem AtA.mod {B:Nat}{W0 W W':World}{σ σ':Ar}(h:AtA B W0 W σ)(hi:ArAt W' (B+1) B σ')(hm:Mod [B+1,B] W W'):AtA B W0 W' σ':=
 ⟨hi,Nat.le_trans h.2.1 hm.size,hm.below_of h.2.2 (by have:=h.2.1;omega) (by simp)⟩
section
variable(B:Nat)(W0 W:World)(σ σ':Ar)(H:AtA B W0 W σ)
include H
end
end Go.Proofs.YtfmiioddhpkdkaaGreat.Ara
namespace Go.Proofs.YtfmiioddhpkdkaaGreat
open Go.RowKit
theorem keep1 {W W':World}{p:Addr}{v:Value}(hb:Below W.heap.size W W')(h:W.cell? p=some v):W'.cell? p=some v:=(hb.cell (World.block_lt_of_cell? _ _ h)).trans h
theorem keepM {S:List Nat}{W W':World}{p:Addr}{v:Value}(hm:Mod S W W')(h:W.cell? p=some v)(hn:p.block∉S):W'.cell? p=some v:=by
 have hb:=hm.block p.block (World.block_lt_of_cell? _ _ h) hn;simpa[World.cell?,hb]using h
end Go.Proofs.YtfmiioddhpkdkaaGreat
namespace Go.Proofs.YtfmiioddhpkdkaaGreat.Lok
open Go.RowKit Go.Proofs.YtfmiioddhpkdkaaGreat.Ara
structure Sp where
 pc:Int
 a:Int
 b:Int
 c:Int
 deriving DecidableEq
def decSp (s:Sp):List Value:=[.int .i64 s.pc,.int .i64 s.a,.int .i64 s.b,.int .i64 s.c]
def sp0:Sp:=⟨0,0,0,0⟩
theorem flat_set {α:Type}{dec:α→List Value}{k:Nat}(hdk:∀a,(dec a).length=k)(l:List α)(i j:Nat)(hj:j<k)(a a':α)(ha:l[i]? =some a)(v:Value)(hv:dec a'=(dec a).set j v):
 (l.flatMap dec).set (i*k+j) v=(l.set i a').flatMap dec:=by
 induction l generalizing i with
 |nil=>simp at ha
 |cons y l ih=>
  cases i with
  |zero=>
   obtain rfl:y=a:=by simpa using ha
   rw[List.flatMap_cons,List.set_cons_zero,List.flatMap_cons,hv,Nat.zero_mul,Nat.zero_add,List.set_append_left _ _ (by rw[hdk];exact hj)]
  |succ i=>
   rw[List.flatMap_cons,List.set_cons_succ,List.flatMap_cons,←ih i (by simpa using ha),List.set_append_right _ _ (by rw[hdk,Nat.add_mul];omega),hdk,show(i+1)*k+j-k=i*k+j by rw[Nat.add_mul];omega]
def SpAt (W:World)(h:Nat)(sp:List Sp):Prop:=
 ∃cur:Array Value,W.heap[h]? =some (.cells cur 134 (0,0))∧cur.toList.take (sp.length*4)=sp.flatMap decSp
theorem SpAt.lt {W:World}{h:Nat}{sp:List Sp}(k:SpAt W h sp):h<W.heap.size:=by
 obtain⟨cur,h1,_⟩:=k;exact lt_of_blk h1
theorem SpAt.of_blk {W W':World}{h:Nat}{sp:List Sp}(k:SpAt W h sp)(e:W'.heap[h]? =W.heap[h]?):SpAt W' h sp:=by
 obtain⟨cur,h1,h2⟩:=k;exact⟨cur,e.trans h1,h2⟩
theorem SpAt.mod {S:List Nat}{W W':World}{h:Nat}{sp:List Sp}(k:SpAt W h sp)(hm:Mod S W W')(hh:h∉S):SpAt W' h sp:=k.of_blk (hm.block h k.lt hh)
theorem decSp_len (s:Sp):(decSp s).length=4:=rfl
theorem SpAt.cell {W:World}{h:Nat}{sp:List Sp}(k:SpAt W h sp)(i:Nat)(hi:i<sp.length)(j:Nat)(hj:j<4):W.cell? ⟨h,i*4+j,none⟩=(decSp sp[i])[j]? :=by
 obtain⟨cur,h1,h2⟩:=k;have h3:=flat_get decSp_len sp i j hj sp[i] (List.getElem?_eq_getElem hi);rw[←h2,List.getElem?_take_of_lt (by omega)]at h3
 have hl:i*4+j<cur.toList.length:=by
  have:=congrArg List.length h2;rw[List.length_take,flat_len decSp_len]at this;omega
 rw[←h3,blk_cell h1 (i*4+j) (by simpa using hl)];simp at hl;simp[hl]
theorem SpAt.cells {W:World}{h:Nat}{sp:List Sp}(k:SpAt W h sp)(i:Nat)(hi:i<sp.length):
 W.cell? ⟨h,i*4,none⟩=some (.int .i64 sp[i].pc)∧W.cell? ⟨h,i*4+1,none⟩=some (.int .i64 sp[i].a)∧W.cell? ⟨h,i*4+2,none⟩=some (.int .i64 sp[i].b)∧W.cell? ⟨h,i*4+3,none⟩=some (.int .i64 sp[i].c)∧∀j,W.frozen? ⟨h,j,none⟩=false:=by
 refine⟨k.cell i hi 0 (by omega),k.cell i hi 1 (by omega),k.cell i hi 2 (by omega),k.cell i hi 3 (by omega),fun j=> ?_⟩;obtain⟨cur,h1,_⟩:=k;exact blk_free h1 j
theorem SpAt.set {W:World}{h:Nat}{sp:List Sp}(k:SpAt W h sp)(i:Nat)(hi:i<sp.length)(j:Nat)(hj:j<4)(v:Value)(s':Sp)(hv:decSp s'=(decSp sp[i]).set j v):SpAt (W.setCell ⟨h,i*4+j,none⟩ v) h (sp.set i s'):=by
 obtain⟨cur,h1,h2⟩:=k;refine⟨cur.setIfInBounds (i*4+j) v,blk_set h1 _ _,?_⟩;rw[←flat_set decSp_len sp i j hj sp[i] s' (List.getElem?_eq_getElem hi) v hv,←h2,List.length_set,Array.toList_setIfInBounds,List.take_set]
theorem SpAt.setPc {W:World}{h:Nat}{sp:List Sp}(k:SpAt W h sp)(i:Nat)(hi:i<sp.length)(x:Int):SpAt (W.setCell ⟨h,i*4,none⟩ (.int .i64 x)) h (sp.set i {sp[i]with pc:=x}):=k.set i hi 0 (by omega) _ _ rfl
theorem SpAt.setA {W:World}{h:Nat}{sp:List Sp}(k:SpAt W h sp)(i:Nat)(hi:i<sp.length)(x:Int):SpAt (W.setCell ⟨h,i*4+1,none⟩ (.int .i64 x)) h (sp.set i {sp[i]with a:=x}):=k.set i hi 1 (by omega) _ _ rfl
theorem SpAt.setB {W:World}{h:Nat}{sp:List Sp}(k:SpAt W h sp)(i:Nat)(hi:i<sp.length)(x:Int):SpAt (W.setCell ⟨h,i*4+2,none⟩ (.int .i64 x)) h (sp.set i {sp[i]with b:=x}):=k.set i hi 2 (by omega) _ _ rfl
def spOf (sp:List Sp)(i:Int):Sp:=if 0≤i∧i<sp.length then sp.getD i.toNat sp0 else sp0
theorem spOf_in {sp:List Sp}{k:Nat}(h:k<sp.length):spOf sp (k:Int)=sp[k]:=by
 unfold spOf;rw[if_pos (by omega),Int.toNat_natCast];simp[h]
theorem spOf_out {sp:List Sp}{i:Int}(h:i<0∨(sp.length:Int)≤i):spOf sp i=sp0:=by
 unfold spOf;rw[if_neg (by omega)]
def turnB (sp:List Sp)(i fr:Int):Bool:=decide (0≤i)&&decide (i<sp.length)&&((spOf sp i).pc==fr)
def turnS (sp:List Sp)(i fr tO:Int):List Sp:=if turnB sp i fr then sp.set i.toNat {spOf sp i with pc:=tO}else sp
theorem turn_out {sp:List Sp}{i:Int}(h:i<0∨(sp.length:Int)≤i)(fr:Int):turnB sp i fr=false:=by
 unfold turnB;rcases h with h|h
 ·rw[decide_eq_false (by omega),Bool.false_and,Bool.false_and]
 ·rw[decide_eq_false (p:=i<_) (by omega),Bool.and_false,Bool.false_and]
theorem turn_in {sp:List Sp}{k:Nat}(h:k<sp.length)(fr:Int):turnB sp (k:Int) fr=(sp[k].pc==fr):=by
 unfold turnB;rw[decide_eq_true (by omega),decide_eq_true (by omega),spOf_in h];rfl
theorem turnS_in {sp:List Sp}{k:Nat}(h:k<sp.length)(fr tO:Int):turnS sp (k:Int) fr tO=if sp[k].pc=fr then sp.set k {sp[k]with pc:=tO}else sp:=by
 unfold turnS;rw[turn_in h,spOf_in h,Int.toNat_natCast];simp only[beq_iff_eq]
theorem turnS_out {sp:List Sp}{i:Int}(h:i<0∨(sp.length:Int)≤i)(fr tO:Int):turnS sp i fr tO=sp:=by
 unfold turnS;rw[turn_out h,if_neg (by decide)]
theorem turnS_len (sp:List Sp)(i fr tO:Int):(turnS sp i fr tO).length=sp.length:=by
 unfold turnS;split
 ·rw[List.length_set]
 ·rfl
end Go.Proofs.YtfmiioddhpkdkaaGreat.Lok
