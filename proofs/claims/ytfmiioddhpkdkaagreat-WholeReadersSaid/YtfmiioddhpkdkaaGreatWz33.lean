/- Merged texts: Sp13, WrP. -/
import Derived.Test.YtfmiioddhpkdkaaGreatWz32
set_option linter.unusedVariables false
set_option linter.unusedSimpArgs false
set_option maxRecDepth 100000
set_option maxHeartbeats 8000000
namespace Go.Proofs.YtfmiioddhpkdkaaGreat.Sp
open Go.RowKit Go.Maps
theorem frame66 {a:Act}(h:a.tmps.size=66)(hd:a.defers=[]):∃u:Nat→Value,a={tmps:= #[u 0,u 1,u 2,u 3,u 4,u 5,u 6,u 7,u 8,u 9,u 10,u 11,u 12,u 13,u 14,u 15,u 16,u 17,u 18,u 19,u 20,u 21,u 22,u 23,u 24,u 25,u 26,u 27,u 28,u 29,u 30,u 31,u 32,u 33,u 34,u 35,u 36,u 37,u 38,u 39,u 40,u 41,u 42,u 43,u 44,u 45,u 46,u 47,u 48,u 49,u 50,u 51,u 52,u 53,u 54,u 55,u 56,u 57,u 58,u 59,u 60,u 61,u 62,u 63,u 64,u 65],defers:=[]}∧∀n,a.tmps.getD n undef=u n:=by
 refine⟨fun n=>a.tmps.getD n undef,?_,fun _=>rfl⟩;have h1:=arr_lit a.tmps h;cases a with
 |mk t d=>
  simp only at hd h1;subst hd;congr 1
theorem lawI:Keyed Tryz.prog 3:=int_keyed Tryz.underlying3
theorem zeroI (w:World):(zeroValue 3).run Tryz.prog w= .ok (.int .i64 0) w:=by kernel_rfl
theorem wpList_lookup_hit (w:World){ops:Array Oper}{rest:List Oper}{o:Oper}{a:Act}{Q:Exit→Act→World→Prop}
 (hg:o.guard=none) (m x:Operand) (hop:o.op=Op.lookup 82 m x true)
 (b n:Nat) (D:DataW Unit) (hm:a.eval m= .map (some b)) (hown:w.ownsMap Tryz.prog 3 (plainElem Tryz.prog 3) b n D) (t:Int) (hx:a.eval x= .int .i64 t) (hwf:(Lit.int .i64 t).wf=true)
 (c0:Int) (b0:Bool) (hb:Maps.has D (kI t)=b0) (hc:∀z,D.atKey (kI t) z=z∨D.atKey (kI t) z= .lit (.int .i64 c0)) (h0:b0=false→c0=0)
 (hb1:b0=true→∀z,D.atKey (kI t) z= .lit (.int .i64 c0))
 (hK:wpList Tryz.prog ops Q rest (a.put o.dst (.tuple #[.int .i64 c0,.bool b0])) w):
 wpList Tryz.prog ops Q (o::rest) a w:=
 wpList_lookup_own_ok_int w hg m x _ hop 3 3 .i64 lawI Tryz.underlying82 Tryz.underlying3 (zeroI _) b n D hm hown _ (kI t) hx (keyOf_int_mk Tryz.underlying3 hwf) (fun c hat _=>by
  have:c=c0:=by
   cases hbb:b0 with
   |true=>
    rw[hb1 hbb]at hat;have h2:c0=c:=by simpa using hat
    exact h2.symm
   |false=>
    have hno:Maps.has D (kI t)=false:=by rw[hb,hbb]
    rw[atKey_of_not_has hno]at hat;have h2:(0:Int)=c:=by simpa using hat
    rw[h0 hbb];exact h2.symm
  rw[this,hb];exact hK)
theorem mapN {w:World}{b n:Nat}{D:DataW Unit}(h:w.ownsMap Tryz.prog 3 (plainElem Tryz.prog 3) b n D)(q:Nat):(w.drewN q).ownsMap Tryz.prog 3 (plainElem Tryz.prog 3) b n D:=h
theorem behind_put {w W w1:World}{ev:E}{v:Value}{n:Nat}{xs:List Value}(hb:Below w.heap.size w W)(ho:W.ownsRow (w.heap.size+1) 40 7 v n xs)(hs:w.heap.size+1≤W.heap.size)
 (hg:(W.alloc (.cells #[.int .i64 ev.kind,.int .i64 ev.th,.bool ev.rd,.int .i64 ev.ct] 44)).grownBy w1 (some w.heap.size)):
 w1.cell? ⟨W.heap.size,0,none⟩=some (.int .i64 ev.kind)∧w1.cell? ⟨W.heap.size,1,none⟩=some (.int .i64 ev.th)∧w1.cell? ⟨W.heap.size,2,none⟩=some (.bool ev.rd)∧w1.cell? ⟨W.heap.size,3,none⟩=some (.int .i64 ev.ct)∧
 w.heap.size+1≤w1.heap.size∧w1.ownsRow (w.heap.size+1) 40 7 v n xs∧Below w.heap.size w w1:=by
 have hk:w1.heap[W.heap.size]? =some (.cells #[.int .i64 ev.kind,.int .i64 ev.th,.bool ev.rd,.int .i64 ev.ct] 44):=
  (hg.block W.heap.size (by simp) (by intro e;injection e with e;omega)).trans (blk_new _ _)
 refine⟨blk_cell hk 0 (by simp),blk_cell hk 1 (by simp),blk_cell hk 2 (by simp),blk_cell hk 3 (by simp),?_,?_,?_⟩
 ·have:=hg.size
  simp at this;omega
 ·refine(ho.alloc _).kept hg ?_
  cases hv:v.ownBlock with
  |none=>exact .inl rfl
  |some b=>
   right;intro e;injection e with e;have:=ho.lt b hv;omega
 ·exact(hb.alloc hb.size _).grown hg (by have:=hb.size;simp;omega) (fun k hk=>by injection hk with hk;omega)
theorem ev_cells (W:World)(ev:E):(W.alloc (.cells #[.int .i64 ev.kind,.int .i64 ev.th,.bool ev.rd,.int .i64 ev.ct] 44)).heap[W.heap.size]? =some (.cells #[.int .i64 ev.kind,.int .i64 ev.th,.bool ev.rd,.int .i64 ev.ct] 44):=blk_new _ _
def EvS (bx:Nat)(ev:E)(V:World):Prop:=V.cell? ⟨bx,0,none⟩=some (.int .i64 ev.kind)∧V.cell? ⟨bx,1,none⟩=some (.int .i64 ev.th)∧V.cell? ⟨bx,2,none⟩=some (.bool ev.rd)∧V.cell? ⟨bx,3,none⟩=some (.int .i64 ev.ct)
theorem ev_s {V:World}{bx:Nat}{ev:E}(h:V.heap[bx]? =some (.cells #[.int .i64 ev.kind,.int .i64 ev.th,.bool ev.rd,.int .i64 ev.ct] 44)):EvS bx ev V:=
 ⟨blk_cell h 0 (by simp),blk_cell h 1 (by simp),blk_cell h 2 (by simp),blk_cell h 3 (by simp)⟩
theorem own_head {w:World}{base n cap:Nat}{B:Option Addr}{e:TypeId}{size:Nat}{xs:List Value}(h:w.ownsRow base e size (.slice B n cap) n xs)(hn:0<n):∃g,B=some ⟨g,0,none⟩∧base≤g∧g<w.heap.size:=by
 rcases h.2 with⟨_,h0⟩|⟨g,cap',cur,hv,hb,hg,_⟩
 ·omega
 ·cases hv
  exact⟨g,rfl,hb,lt_of_blk hg⟩
theorem SRow.to {base g cap n:Nat}{out:List St}{w:World}(h:SRow base g cap out w)(hl:out.length=n):w.ownsRow base 40 7 (.slice (some ⟨g,0,none⟩) n cap) out.length (out.flatMap dSt):=by subst hl;exact h
theorem mod_grown1 {g:Nat}{a w:World}(h:Mod [g] a w):a.grownBy w (some g):=⟨h.os,h.tape,h.output,h.size,fun k hk hne=>h.block k hk (fun e=>hne (by rw[List.mem_singleton.1 e]))⟩
theorem sz_ev {W w2:World}{S:List Nat}{o:Obj}(h:Mod S ((W.alloc o).drew) w2):W.heap.size≤w2.heap.size:=by
 have h1:=h.size;have h2:((W.alloc o).drew).heap.size=W.heap.size+1:=by show(W.alloc _).heap.size=_;simp
 omega
def OfK (l:List E)(w:World)(A:Option Addr)(cap:Nat)(a:Act)(W:World):Prop:=
 a.tmps.size=66∧a.defers=[]∧a.tmps.getD 4 undef= .map (some w.heap.size)∧a.tmps.getD 10 undef= .slice A l.length cap∧a.tmps.getD 11 undef= .int .i64 (l.length:Int)∧∃(k:Nat) (v:Value) (D:DataW Unit) (n:Nat),a.tmps.getD 3 undef=v∧a.tmps.getD 12 undef= .int .i64 (k:Int)∧k≤l.length∧
  W.ownsRow (w.heap.size+1) 40 7 v (outP l k).length ((outP l k).flatMap dSt)∧W.ownsMap Tryz.prog 3 (plainElem Tryz.prog 3) w.heap.size n D∧n≤k∧MapR D (outP l k)∧Below w.heap.size w W∧w.heap.size+1≤W.heap.size
def Wf (l:List E):Prop:=∀e∈l,(Lit.int .i64 e.th).wf=true
theorem of_any (l:List E)(A:Option Addr)(cap:Nat)(w:World)(hm:l.length≤1000)(hwf:Wf l)(hs:Sl w w.heap.size A (l.flatMap dE)):
 Calls Tryz.prog 10 #[.slice A l.length cap] w fun e w'=>∃B c,e= .returned (.slice B (outP l l.length).length c)∧w'.ownsRow (w.heap.size+1) 40 7 (.slice B (outP l l.length).length c) (outP l l.length).length ((outP l l.length).flatMap dSt)∧Below w.heap.size w w':=by
 have HS:=Lib.hid hs;have HWF:=Lib.hid hwf;have hmm:= @run_makeMap Tryz.prog;clear hs hwf;go_enter Tryz.func10,Tryz.ntmps10;go_wp2_with fail;refine wp_loop (OfK l w A cap) (fun a' _=>l.length-(intOf (a'.tmps.getD 12 undef)).toNat) ?_ ?_
 ·exact⟨rfl,rfl,rfl,rfl,rfl,0,_,.map [],0,rfl,rfl,Nat.zero_le _,World.ownsRow_nil _ _ _ _,World.ownsMap_made _ _ _ _,Nat.le_refl _,mapR_nil,(Below.refl _ _).alloc (Nat.le_refl _) _,by simp⟩
 ·rintro a' W ⟨hsz,hdf,s4,s10,s11,k,v,D,n,s3,s12,hk,hown,hmap,hn,hR,hbel,hws⟩
  obtain⟨u,rfl,hu⟩:=frame66 hsz hdf;rw[hu]at s4 s10 s11 s3 s12;simp only[s4,s10,s11,s3,s12];clear hsz hdf s4 s10 s11 s3 s12 hu;have HB:=Lib.hid hbel;have HO:=Lib.hid hown;have HR:=Lib.hid hR;have HM:=Lib.hid hmap;have hol:=outP_len l k;by_cases hlt:k<l.length
  ·obtain⟨b,off,hA,hbb,hcell⟩:=sl_ev ((HS.out.below hbel).more hbel.size) (by omega)
   subst hA;obtain⟨c0,c1,c2,c3⟩:=hcell k hlt;have i1:(k:Int)<(l.length:Int):=by omega
   have HW:=Lib.hid (HWF.out _ (by rw[List.getD_eq_getElem?_getD,List.getElem?_eq_getElem hlt];exact List.getElem_mem hlt:l.getD k e0∈l));obtain⟨B2,cb,rfl,_,_,hsl⟩:=own_slice hown;have HST:Hid (outP l (k+1)=stepP (outP l k) k (l.getD k e0)):=Lib.hid rfl;clear hcell hbel hown hsl hR hmap;generalize l.getD k e0=ev at*;generalize outP l k=out at*;cases hany:out.any (isO ev.th)with
   |false=>
    have HL:=Lib.hid ((HR.out.2 ev.th).1.trans hany);by_cases h1:ev.kind=1
    ·have HV:Hid (outP l (k+1)=out++ [⟨ev.th,ev.rd,k,-1,-1,-1,0⟩]):=Lib.hid (HST.out.trans (step_new hany h1))
     have HR2:Hid (MapR (D.put (kI ev.th) (.lit (.int .i64 (out.length:Int)))) (out++ [⟨ev.th,ev.rd,k,-1,-1,-1,0⟩])):=Lib.hid (HR.out.new (s:=⟨ev.th,ev.rd,k,-1,-1,-1,0⟩) (by show(-1:Int)<0;decide) hany);have q:=ibeq h1;clear h1 hany
     go_wp2_with(first
      |(at_lookup;refine wpList_lookup_hit _ rfl _ _ rfl w.heap.size n D rfl (HM.out.alloc _) ev.th rfl HW.out 0 false HL.out (fun z=> .inl (atKey_of_not_has HL.out z)) (fun _=>rfl) (fun h=>by cases h) ?_)
      |(at_mapUpdate;refine wpList_mapUpdate_own _ rfl _ _ _ 82 rfl 3 3 lawI Tryz.underlying82 _ w.heap.size n D rfl (HM.out.alloc _) (by unfold maxLen;omega) _ _ (kI ev.th) rfl rfl (keyOf_int_mk Tryz.underlying3 HW.out) _ [] (plainElem_int Tryz.underlying3 (WalkArith.wf_i64 (by omega))) ?_;intro w1 hown1 hgrow1;obtain⟨d0,d1,d2,d3,hsz1,how1,hbel1⟩:=behind_put HB.out HO.out hws hgrow1;have HM1:=Lib.hid hown1;have HO1:=Lib.hid how1;have HB1:=Lib.hid hbel1;clear hown1 hgrow1 how1 hbel1)
      |(at_builtin;refine wpList_append1 (.tmp 37) (.tmp 44) 37 40 _ 7 56 rfl rfl Tryz.underlying37 infoSt rfl (by decide) (w.heap.size+1) _ _ _ _ _ _ _ _ HO1.out rfl rfl ?cgS rfl ?d1S ?d2S ?d3S ?d4S ?ckS;case' ckS=>intro v' w2 hown2 hb2 hg2))
     case cgS=>first|rfl|simp
     case d1S=>simp[Value.oneCell']
     case d2S=>simp only[maxLen];omega
     case d3S=>omega
     try(case d4S=>omega)
     have HM2:=Lib.hid (HM1.out.kept hg2 (fun e=>by have:=HO1.out.lt _ e.symm;omega));have HB2:=Lib.hid (HB1.out.trans (hb2.mono (Nat.le_succ _)));have HO2:=Lib.hid hown2;have HZ:=Lib.hid (Nat.le_trans hsz1 hg2.size);clear hown2 hb2 hg2;go_wp2_with fail;go_roundw
     case rel=>exact⟨rfl,rfl,rfl,rfl,rfl,k+1,v',_,n+1,rfl,by go_num,by omega,by rw[HV.out];simpa[dSt]using HO2.out,HM2.out,by omega,by rw[HV.out];exact HR2.out,HB2.out,HZ.out⟩
     case measure=>simp[intOf];omega
    ·have HV:Hid (outP l (k+1)=out):=Lib.hid (HST.out.trans (step_none hany h1))
     have q:=ibeq_no h1;clear h1 hany;go_wp2_with(at_lookup;refine wpList_lookup_hit _ rfl _ _ rfl w.heap.size n D rfl (HM.out.alloc _) ev.th rfl HW.out 0 false HL.out (fun z=> .inl (atKey_of_not_has HL.out z)) (fun _=>rfl) (fun h=>by cases h) ?_);go_quiet(fail);go_wp2_with fail;go_roundw
     case rel=>exact⟨rfl,rfl,rfl,rfl,rfl,k+1,_,D,n,rfl,by go_num,by omega,by rw[HV.out];exact own_drewN (HO.out.alloc _) _,mapN (HM.out.alloc _) _,by omega,by rw[HV.out];exact HR.out,below_drewN (HB.out.alloc HB.out.size _) _,by show w.heap.size+1≤((W.alloc _).drewN _).heap.size;simp;omega⟩
     case measure=>simp[intOf];omega
   |true=>
    obtain⟨j,hj,ho⟩:=(any_iff _ _).1 hany;have HL:=Lib.hid ((HR.out.2 ev.th).1.trans hany);have HAT:=Lib.hid ((HR.out.2 ev.th).2 j hj ho);obtain⟨g,rfl,hg1,hg2⟩:=own_head HO.out (by omega);have HV:Hid (outP l (k+1)=out.set j (noteP k (out.getD j s0) ev)):=Lib.hid (HST.out.trans (step_hit HR.out hj ho));have HN:=Lib.hid (note_any (w.heap.size+1) g cb k j out ev ((W.alloc (.cells #[.int .i64 ev.kind,.int .i64 ev.th,.bool ev.rd,.int .i64 ev.ct] 44)).drew) (SRow.drew (SRow.alloc HO.out _)) hj);have HE:=Lib.hid (ev_cells W ev);have i2:(j:Int)<(out.length:Int):=by omega
    have HL2:Hid ((out.set j (noteP k (out.getD j s0) ev)).length=out.length):=Lib.hid List.length_set;by_cases hdel:ev.kind=4∧0≤(out.getD j s0).ex
    ·obtain⟨hnb,hre⟩:=note_end (k:=k) hdel.1 hdel.2
     rw[hnb]at HN;have HR2:=Lib.hid (HR.out.close hj ho hre);have q1:(ev.kind==1)=false:=ibeq_no (by omega);have HQ4:=Lib.hid (ibeq hdel.1);clear hdel hnb hre hany ho;generalize out.set j (noteP k (out.getD j s0) ev)=out' at*;go_wp2_with(at_lookup;refine wpList_lookup_hit _ rfl _ _ rfl w.heap.size n D rfl (HM.out.alloc _) ev.th rfl HW.out (j:Int) true HL.out (fun z=> .inr (HAT.out z)) (fun h=>by cases h) (fun _=>HAT.out) ?_);refine wp_region_held_drew (S:=fun V=>V.cell? ⟨W.heap.size,0,none⟩=some (.int .i64 ev.kind)∧V.cell? ⟨W.heap.size,1,none⟩=some (.int .i64 ev.th)∧V.cell? ⟨W.heap.size,2,none⟩=some (.bool ev.rd)∧V.cell? ⟨W.heap.size,3,none⟩=some (.int .i64 ev.ct)) (by kernel_rfl) (ev_s HE.out) (fun hHeld=> ?_);refine take_to 0 (some 47) (v:= ?_) rfl rfl (by kernel_rfl) (by kernel_rfl) (by kernel_rfl) (fun _ _ _ h=>h) (Or.inl ⟨by rfl,?_⟩) (by first|trivial|assumption) ?_;rotate_left;focus(intro w hSw;(try dsimp only at hSw);go_simp;(try with_reducible rfl))
     simp only[Act.put,List.setIfInBounds_toArray,List.set_cons_zero,List.set_cons_succ];refine take_to 1 (some 48) (v:= ?_) rfl rfl (by kernel_rfl) (by kernel_rfl) (by kernel_rfl) (fun _ _ _ h=>h) (Or.inl ⟨by rfl,?_⟩) (by first|trivial|assumption) ?_;rotate_left;focus(intro w hSw;(try dsimp only at hSw);go_simp;(try with_reducible rfl))
     simp only[Act.put,List.setIfInBounds_toArray,List.set_cons_zero,List.set_cons_succ];refine take_to 2 (some 49) (v:= ?_) rfl rfl (by kernel_rfl) (by kernel_rfl) (by kernel_rfl) (fun _ _ _ h=>h) (Or.inl ⟨by rfl,?_⟩) (by first|trivial|assumption) ?_;rotate_left;focus(intro w hSw;(try dsimp only at hSw);go_simp;(try with_reducible rfl))
     simp only[Act.put,List.setIfInBounds_toArray,List.set_cons_zero,List.set_cons_succ];refine take_to 3 (some 50) (v:= ?_) rfl rfl (by kernel_rfl) (by kernel_rfl) (by kernel_rfl) (fun _ _ _ h=>h) (Or.inl ⟨by rfl,?_⟩) (by first|trivial|assumption) ?_;rotate_left;focus(intro w hSw;(try dsimp only at hSw);go_simp;(try with_reducible rfl))
     simp only[Act.put,List.setIfInBounds_toArray,List.set_cons_zero,List.set_cons_succ];refine take_to 4 (some 51) (v:= ?_) rfl rfl (by kernel_rfl) (by kernel_rfl) (by kernel_rfl) (fun _ _ _ h=>h) (Or.inl ⟨by rfl,?_⟩) (by first|trivial|assumption) ?_;rotate_left;focus(intro w hSw;(try dsimp only at hSw);go_simp;(try with_reducible rfl))
     simp only[Act.put,List.setIfInBounds_toArray,List.set_cons_zero,List.set_cons_succ];refine take_to 5 (some 52) (v:= ?_) rfl rfl (by kernel_rfl) (by kernel_rfl) (by kernel_rfl) (fun _ _ _ h=>h) (Or.inl ⟨by rfl,?_⟩) (by first|trivial|assumption) ?_;rotate_left;focus(intro w hSw;(try dsimp only at hSw);go_simp;(try with_reducible rfl))
     simp only[Act.put,List.setIfInBounds_toArray,List.set_cons_zero,List.set_cons_succ];refine take_to 6 (some 53) (v:= ?_) rfl rfl (by kernel_rfl) (by kernel_rfl) (by kernel_rfl) (fun _ _ _ h=>h) (Or.inl ⟨by rfl,?_⟩) (by first|trivial|assumption) ?_;rotate_left;focus(intro w hSw;(try dsimp only at hSw);go_simp;(try with_reducible rfl))
     simp only[Act.put,List.setIfInBounds_toArray,List.set_cons_zero,List.set_cons_succ];refine wpAnyH_ready (rs:=[7]) (by kernel_rfl) (by simp) ?_;refine AllReadyH.cons rfl (fun K hK=> ?_) AllReadyH.nil;go_simp;refine(HN.out).mono ?_;rintro e w2 ⟨rfl,hr2,hm2⟩;go_simp;have HE2:=Lib.hid (hm2.blk (show((W.alloc (.cells #[.int .i64 ev.kind,.int .i64 ev.th,.bool ev.rd,.int .i64 ev.ct] 44)).drew).heap[W.heap.size]? =_ from HE.out) (by simp;omega));have HM2:=Lib.hid hm2;have HR4:=Lib.hid (hr2.to HL2.out);have HMP:=Lib.hid (((HM.out.alloc (.cells #[.int .i64 ev.kind,.int .i64 ev.th,.bool ev.rd,.int .i64 ev.ct] 44)).drew).kept (mod_grown1 hm2) (by intro e;injection e with e;omega));have HB2:=Lib.hid (((HB.out.alloc HB.out.size (.cells #[.int .i64 ev.kind,.int .i64 ev.th,.bool ev.rd,.int .i64 ev.ct] 44)).drew).grown (mod_grown1 hm2) (by have:=HB.out.size;show _≤(W.alloc _).heap.size;simp;omega) (fun q hq=>by injection hq with hq;omega));have HZ2:=Lib.hid (sz_ev hm2);clear hm2 hr2;refine hK.out _ _ (ev_s HE2.out) (fun hHeld=> ?_);refine take_to 8 (some 55) (v:= ?_) rfl rfl (by kernel_rfl) (by kernel_rfl) (by kernel_rfl) (fun _ _ _ h=>h) (Or.inl ⟨by rfl,?_⟩) (by first|trivial|assumption) ?_;rotate_left;focus(intro w hSw;(try dsimp only at hSw);go_simp;(try with_reducible rfl))
     simp only[Act.put,List.setIfInBounds_toArray,List.set_cons_zero,List.set_cons_succ];refine take_to 9 (some 56) (v:= ?_) rfl rfl (by kernel_rfl) (by kernel_rfl) (by kernel_rfl) (fun _ _ _ h=>h) (Or.inl ⟨by rfl,?_⟩) (by first|trivial|assumption) ?_;rotate_left;focus(intro w hSw;(try dsimp only at hSw);go_simp;(try with_reducible rfl))
     simp only[Act.put,List.setIfInBounds_toArray,List.set_cons_zero,List.set_cons_succ];have q4:=HQ4.out;refine take_to 10 (some 57) (v:= ?_) rfl rfl (by kernel_rfl) (by kernel_rfl) (by kernel_rfl) (fun _ _ _ h=>h) (Or.inl ⟨by rfl,?_⟩) (by first|trivial|assumption) ?_;rotate_left;focus(intro w hSw;(try dsimp only at hSw);go_simp;(try with_reducible rfl))
     simp only[Act.put,List.setIfInBounds_toArray,List.set_cons_zero,List.set_cons_succ];refine take_to 11 (some 58) (v:= ?_) rfl rfl (by kernel_rfl) (by kernel_rfl) (by kernel_rfl) (fun _ _ _ h=>h) (Or.inl ⟨by rfl,?_⟩) (by first|trivial|assumption) ?_;rotate_left;focus(intro w hSw;(try dsimp only at hSw);go_simp;(try with_reducible rfl))
     simp only[Act.put,List.setIfInBounds_toArray,List.set_cons_zero,List.set_cons_succ];refine take_to 12 (some 59) (v:= ?_) rfl rfl (by kernel_rfl) (by kernel_rfl) (by kernel_rfl) (fun _ _ _ h=>h) (Or.inl ⟨by rfl,?_⟩) (by first|trivial|assumption) ?_;rotate_left;focus(intro w hSw;(try dsimp only at hSw);go_simp;(try with_reducible rfl))
     simp only[Act.put,List.setIfInBounds_toArray,List.set_cons_zero,List.set_cons_succ];refine take_to 13 (some 60) (v:= ?_) rfl rfl (by kernel_rfl) (by kernel_rfl) (by kernel_rfl) (fun _ _ _ h=>h) (Or.inl ⟨by rfl,?_⟩) (by first|trivial|assumption) ?_;rotate_left;focus(intro w hSw;(try dsimp only at hSw);go_simp;(try with_reducible rfl))
     simp only[Act.put,List.setIfInBounds_toArray,List.set_cons_zero,List.set_cons_succ];refine take_to 14 (some 46) (v:= ?_) rfl rfl (by kernel_rfl) (by kernel_rfl) (by kernel_rfl) (fun _ _ _ h=>h) (Or.inl ⟨by rfl,?_⟩) (by first|trivial|assumption) ?_;rotate_left;focus(intro w hSw;(try dsimp only at hSw);go_simp;(try with_reducible rfl))
     simp only[Act.put,List.setIfInBounds_toArray,List.set_cons_zero,List.set_cons_succ];refine wpAnyH_done (by kernel_rfl) ?_ _;obtain⟨d0,d1,d2,d3⟩:=ev_s HE2.out;go_wp2_with(at_delete;refine wpList_delete_own _ rfl _ _ 82 3 rfl 3 lawI Tryz.underlying82 _ w.heap.size n D rfl HMP.out _ (kI ev.th) rfl (keyOf_int_mk Tryz.underlying3 HW.out) ?_;intro w3 hown3 hturn3;have HM3:=Lib.hid hown3;have HT3:=Lib.hid hturn3;clear hown3 hturn3 d0 d1 d2 d3);have HO3:=Lib.hid (HR4.out.kept HT3.out.grown (.inr (by simp[Value.ownBlock];omega)));have HB3:=Lib.hid (HB2.out.grown HT3.out.grown (Nat.le_trans HB.out.size HZ2.out) (fun q hq=>by injection hq with hq;omega));have HZ3:=Lib.hid (Nat.le_trans (Nat.le_trans hws HZ2.out) HT3.out.grown.size);go_wp2_with fail;go_roundw
     case rel=>exact⟨rfl,rfl,rfl,rfl,rfl,k+1,_,_,n,rfl,by go_num,by omega,by rw[HV.out];exact HO3.out,HM3.out,by omega,by rw[HV.out];exact HR2.out,HB3.out,HZ3.out⟩
     case measure=>simp[intOf];omega
    ·have hopn:=fun t=>note_open (k:=k) (s:=out.getD j s0) (e:=ev) hdel t
     have HR2:=Lib.hid (HR.out.set hj hopn);clear hopn;cases hnb:noteB (out.getD j s0) ev with
     |true=>
      have h4:¬ev.kind=4:=fun h=>by
       have:=(noteB_iff _ _).1 hnb;omega
      have h1:¬ev.kind=1:=fun h=>by
       have:=(noteB_iff _ _).1 hnb;omega
      rw[hnb]at HN;have q1:=ibeq_no h1;have HQ4:=Lib.hid (ibeq_no h4);clear hdel hnb h1 h4 hany ho;generalize out.set j (noteP k (out.getD j s0) ev)=out' at*;go_wp2_with(at_lookup;refine wpList_lookup_hit _ rfl _ _ rfl w.heap.size n D rfl (HM.out.alloc _) ev.th rfl HW.out (j:Int) true HL.out (fun z=> .inr (HAT.out z)) (fun h=>by cases h) (fun _=>HAT.out) ?_);refine wp_region_held_drew (S:=fun V=>V.cell? ⟨W.heap.size,0,none⟩=some (.int .i64 ev.kind)∧V.cell? ⟨W.heap.size,1,none⟩=some (.int .i64 ev.th)∧V.cell? ⟨W.heap.size,2,none⟩=some (.bool ev.rd)∧V.cell? ⟨W.heap.size,3,none⟩=some (.int .i64 ev.ct)) (by kernel_rfl) (ev_s HE.out) (fun hHeld=> ?_);refine take_to 0 (some 47) (v:= ?_) rfl rfl (by kernel_rfl) (by kernel_rfl) (by kernel_rfl) (fun _ _ _ h=>h) (Or.inl ⟨by rfl,?_⟩) (by first|trivial|assumption) ?_;rotate_left;focus(intro w hSw;(try dsimp only at hSw);go_simp;(try with_reducible rfl))
      simp only[Act.put,List.setIfInBounds_toArray,List.set_cons_zero,List.set_cons_succ];refine take_to 1 (some 48) (v:= ?_) rfl rfl (by kernel_rfl) (by kernel_rfl) (by kernel_rfl) (fun _ _ _ h=>h) (Or.inl ⟨by rfl,?_⟩) (by first|trivial|assumption) ?_;rotate_left;focus(intro w hSw;(try dsimp only at hSw);go_simp;(try with_reducible rfl))
      simp only[Act.put,List.setIfInBounds_toArray,List.set_cons_zero,List.set_cons_succ];refine take_to 2 (some 49) (v:= ?_) rfl rfl (by kernel_rfl) (by kernel_rfl) (by kernel_rfl) (fun _ _ _ h=>h) (Or.inl ⟨by rfl,?_⟩) (by first|trivial|assumption) ?_;rotate_left;focus(intro w hSw;(try dsimp only at hSw);go_simp;(try with_reducible rfl))
      simp only[Act.put,List.setIfInBounds_toArray,List.set_cons_zero,List.set_cons_succ];refine take_to 3 (some 50) (v:= ?_) rfl rfl (by kernel_rfl) (by kernel_rfl) (by kernel_rfl) (fun _ _ _ h=>h) (Or.inl ⟨by rfl,?_⟩) (by first|trivial|assumption) ?_;rotate_left;focus(intro w hSw;(try dsimp only at hSw);go_simp;(try with_reducible rfl))
      simp only[Act.put,List.setIfInBounds_toArray,List.set_cons_zero,List.set_cons_succ];refine take_to 4 (some 51) (v:= ?_) rfl rfl (by kernel_rfl) (by kernel_rfl) (by kernel_rfl) (fun _ _ _ h=>h) (Or.inl ⟨by rfl,?_⟩) (by first|trivial|assumption) ?_;rotate_left;focus(intro w hSw;(try dsimp only at hSw);go_simp;(try with_reducible rfl))
      simp only[Act.put,List.setIfInBounds_toArray,List.set_cons_zero,List.set_cons_succ];refine take_to 5 (some 52) (v:= ?_) rfl rfl (by kernel_rfl) (by kernel_rfl) (by kernel_rfl) (fun _ _ _ h=>h) (Or.inl ⟨by rfl,?_⟩) (by first|trivial|assumption) ?_;rotate_left;focus(intro w hSw;(try dsimp only at hSw);go_simp;(try with_reducible rfl))
      simp only[Act.put,List.setIfInBounds_toArray,List.set_cons_zero,List.set_cons_succ];refine take_to 6 (some 53) (v:= ?_) rfl rfl (by kernel_rfl) (by kernel_rfl) (by kernel_rfl) (fun _ _ _ h=>h) (Or.inl ⟨by rfl,?_⟩) (by first|trivial|assumption) ?_;rotate_left;focus(intro w hSw;(try dsimp only at hSw);go_simp;(try with_reducible rfl))
      simp only[Act.put,List.setIfInBounds_toArray,List.set_cons_zero,List.set_cons_succ];refine wpAnyH_ready (rs:=[7]) (by kernel_rfl) (by simp) ?_;refine AllReadyH.cons rfl (fun K hK=> ?_) AllReadyH.nil;go_simp;refine(HN.out).mono ?_;rintro e w2 ⟨rfl,hr2,hm2⟩;go_simp;have HE2:=Lib.hid (hm2.blk (show((W.alloc (.cells #[.int .i64 ev.kind,.int .i64 ev.th,.bool ev.rd,.int .i64 ev.ct] 44)).drew).heap[W.heap.size]? =_ from HE.out) (by simp;omega));have HM2:=Lib.hid hm2;have HR4:=Lib.hid (hr2.to HL2.out);have HMP:=Lib.hid (((HM.out.alloc (.cells #[.int .i64 ev.kind,.int .i64 ev.th,.bool ev.rd,.int .i64 ev.ct] 44)).drew).kept (mod_grown1 hm2) (by intro e;injection e with e;omega));have HB2:=Lib.hid (((HB.out.alloc HB.out.size (.cells #[.int .i64 ev.kind,.int .i64 ev.th,.bool ev.rd,.int .i64 ev.ct] 44)).drew).grown (mod_grown1 hm2) (by have:=HB.out.size;show _≤(W.alloc _).heap.size;simp;omega) (fun q hq=>by injection hq with hq;omega));have HZ2:=Lib.hid (sz_ev hm2);clear hm2 hr2;refine hK.out _ _ (ev_s HE2.out) (fun hHeld=> ?_);refine take_to 8 (some 55) (v:= ?_) rfl rfl (by kernel_rfl) (by kernel_rfl) (by kernel_rfl) (fun _ _ _ h=>h) (Or.inl ⟨by rfl,?_⟩) (by first|trivial|assumption) ?_;rotate_left;focus(intro w hSw;(try dsimp only at hSw);go_simp;(try with_reducible rfl))
      simp only[Act.put,List.setIfInBounds_toArray,List.set_cons_zero,List.set_cons_succ];refine take_to 9 (some 56) (v:= ?_) rfl rfl (by kernel_rfl) (by kernel_rfl) (by kernel_rfl) (fun _ _ _ h=>h) (Or.inl ⟨by rfl,?_⟩) (by first|trivial|assumption) ?_;rotate_left;focus(intro w hSw;(try dsimp only at hSw);go_simp;(try with_reducible rfl))
      simp only[Act.put,List.setIfInBounds_toArray,List.set_cons_zero,List.set_cons_succ];have q4:=HQ4.out;refine take_to 10 (some 57) (v:= ?_) rfl rfl (by kernel_rfl) (by kernel_rfl) (by kernel_rfl) (fun _ _ _ h=>h) (Or.inl ⟨by rfl,?_⟩) (by first|trivial|assumption) ?_;rotate_left;focus(intro w hSw;(try dsimp only at hSw);go_simp;(try with_reducible rfl))
      simp only[Act.put,List.setIfInBounds_toArray,List.set_cons_zero,List.set_cons_succ];refine take_to 11 (some 58) (v:= ?_) rfl rfl (by kernel_rfl) (by kernel_rfl) (by kernel_rfl) (fun _ _ _ h=>h) (Or.inl ⟨by rfl,?_⟩) (by first|trivial|assumption) ?_;rotate_left;focus(intro w hSw;(try dsimp only at hSw);go_simp;(try with_reducible rfl))
      simp only[Act.put,List.setIfInBounds_toArray,List.set_cons_zero,List.set_cons_succ];refine take_to 12 (some 59) (v:= ?_) rfl rfl (by kernel_rfl) (by kernel_rfl) (by kernel_rfl) (fun _ _ _ h=>h) (Or.inl ⟨by rfl,?_⟩) (by first|trivial|assumption) ?_;rotate_left;focus(intro w hSw;(try dsimp only at hSw);go_simp;(try with_reducible rfl))
      simp only[Act.put,List.setIfInBounds_toArray,List.set_cons_zero,List.set_cons_succ];refine take_to 13 (some 60) (v:= ?_) rfl rfl (by kernel_rfl) (by kernel_rfl) (by kernel_rfl) (fun _ _ _ h=>h) (Or.inl ⟨by rfl,?_⟩) (by first|trivial|assumption) ?_;rotate_left;focus(intro w hSw;(try dsimp only at hSw);go_simp;(try with_reducible rfl))
      simp only[Act.put,List.setIfInBounds_toArray,List.set_cons_zero,List.set_cons_succ];refine take_to 14 (some 46) (v:= ?_) rfl rfl (by kernel_rfl) (by kernel_rfl) (by kernel_rfl) (fun _ _ _ h=>h) (Or.inl ⟨by rfl,?_⟩) (by first|trivial|assumption) ?_;rotate_left;focus(intro w hSw;(try dsimp only at hSw);go_simp;(try with_reducible rfl))
      simp only[Act.put,List.setIfInBounds_toArray,List.set_cons_zero,List.set_cons_succ];refine wpAnyH_done (by kernel_rfl) ?_ _;go_wp2_with fail;go_roundw
      case rel=>exact⟨rfl,rfl,rfl,rfl,rfl,k+1,_,D,n,rfl,by go_num,by omega,by rw[HV.out];exact HR4.out,HMP.out,by omega,by rw[HV.out];exact HR2.out,HB2.out,Nat.le_trans hws HZ2.out⟩
      case measure=>simp[intOf];omega
     |false=>
      rw[hnb]at HN;by_cases h1:ev.kind=1
      ·have q1:=ibeq h1
       clear hdel hnb h1 hany ho;generalize out.set j (noteP k (out.getD j s0) ev)=out' at*;go_wp2_with(at_lookup;refine wpList_lookup_hit _ rfl _ _ rfl w.heap.size n D rfl (HM.out.alloc _) ev.th rfl HW.out (j:Int) true HL.out (fun z=> .inr (HAT.out z)) (fun h=>by cases h) (fun _=>HAT.out) ?_);refine wp_region_held_drew (S:=fun V=>V.cell? ⟨W.heap.size,0,none⟩=some (.int .i64 ev.kind)∧V.cell? ⟨W.heap.size,1,none⟩=some (.int .i64 ev.th)∧V.cell? ⟨W.heap.size,2,none⟩=some (.bool ev.rd)∧V.cell? ⟨W.heap.size,3,none⟩=some (.int .i64 ev.ct)) (by kernel_rfl) (ev_s HE.out) (fun hHeld=> ?_);refine take_to 0 (some 47) (v:= ?_) rfl rfl (by kernel_rfl) (by kernel_rfl) (by kernel_rfl) (fun _ _ _ h=>h) (Or.inl ⟨by rfl,?_⟩) (by first|trivial|assumption) ?_;rotate_left;focus(intro w hSw;(try dsimp only at hSw);go_simp;(try with_reducible rfl))
       simp only[Act.put,List.setIfInBounds_toArray,List.set_cons_zero,List.set_cons_succ];refine take_to 1 (some 48) (v:= ?_) rfl rfl (by kernel_rfl) (by kernel_rfl) (by kernel_rfl) (fun _ _ _ h=>h) (Or.inl ⟨by rfl,?_⟩) (by first|trivial|assumption) ?_;rotate_left;focus(intro w hSw;(try dsimp only at hSw);go_simp;(try with_reducible rfl))
       simp only[Act.put,List.setIfInBounds_toArray,List.set_cons_zero,List.set_cons_succ];refine take_to 2 (some 49) (v:= ?_) rfl rfl (by kernel_rfl) (by kernel_rfl) (by kernel_rfl) (fun _ _ _ h=>h) (Or.inl ⟨by rfl,?_⟩) (by first|trivial|assumption) ?_;rotate_left;focus(intro w hSw;(try dsimp only at hSw);go_simp;(try with_reducible rfl))
       simp only[Act.put,List.setIfInBounds_toArray,List.set_cons_zero,List.set_cons_succ];refine take_to 3 (some 50) (v:= ?_) rfl rfl (by kernel_rfl) (by kernel_rfl) (by kernel_rfl) (fun _ _ _ h=>h) (Or.inl ⟨by rfl,?_⟩) (by first|trivial|assumption) ?_;rotate_left;focus(intro w hSw;(try dsimp only at hSw);go_simp;(try with_reducible rfl))
       simp only[Act.put,List.setIfInBounds_toArray,List.set_cons_zero,List.set_cons_succ];refine take_to 4 (some 51) (v:= ?_) rfl rfl (by kernel_rfl) (by kernel_rfl) (by kernel_rfl) (fun _ _ _ h=>h) (Or.inl ⟨by rfl,?_⟩) (by first|trivial|assumption) ?_;rotate_left;focus(intro w hSw;(try dsimp only at hSw);go_simp;(try with_reducible rfl))
       simp only[Act.put,List.setIfInBounds_toArray,List.set_cons_zero,List.set_cons_succ];refine take_to 5 (some 52) (v:= ?_) rfl rfl (by kernel_rfl) (by kernel_rfl) (by kernel_rfl) (fun _ _ _ h=>h) (Or.inl ⟨by rfl,?_⟩) (by first|trivial|assumption) ?_;rotate_left;focus(intro w hSw;(try dsimp only at hSw);go_simp;(try with_reducible rfl))
       simp only[Act.put,List.setIfInBounds_toArray,List.set_cons_zero,List.set_cons_succ];refine take_to 6 (some 53) (v:= ?_) rfl rfl (by kernel_rfl) (by kernel_rfl) (by kernel_rfl) (fun _ _ _ h=>h) (Or.inl ⟨by rfl,?_⟩) (by first|trivial|assumption) ?_;rotate_left;focus(intro w hSw;(try dsimp only at hSw);go_simp;(try with_reducible rfl))
       simp only[Act.put,List.setIfInBounds_toArray,List.set_cons_zero,List.set_cons_succ];refine wpAnyH_ready (rs:=[7]) (by kernel_rfl) (by simp) ?_;refine AllReadyH.cons rfl (fun K hK=> ?_) AllReadyH.nil;go_simp;refine(HN.out).mono ?_;rintro e w2 ⟨rfl,hr2,hm2⟩;go_simp;have HE2:=Lib.hid (hm2.blk (show((W.alloc (.cells #[.int .i64 ev.kind,.int .i64 ev.th,.bool ev.rd,.int .i64 ev.ct] 44)).drew).heap[W.heap.size]? =_ from HE.out) (by simp;omega));have HM2:=Lib.hid hm2;have HR4:=Lib.hid (hr2.to HL2.out);have HMP:=Lib.hid (((HM.out.alloc (.cells #[.int .i64 ev.kind,.int .i64 ev.th,.bool ev.rd,.int .i64 ev.ct] 44)).drew).kept (mod_grown1 hm2) (by intro e;injection e with e;omega));have HB2:=Lib.hid (((HB.out.alloc HB.out.size (.cells #[.int .i64 ev.kind,.int .i64 ev.th,.bool ev.rd,.int .i64 ev.ct] 44)).drew).grown (mod_grown1 hm2) (by have:=HB.out.size;show _≤(W.alloc _).heap.size;simp;omega) (fun q hq=>by injection hq with hq;omega));have HZ2:=Lib.hid (sz_ev hm2);clear hm2 hr2;refine hK.out _ _ (ev_s HE2.out) (fun hHeld=> ?_);refine take_to 8 (some 55) (v:= ?_) rfl rfl (by kernel_rfl) (by kernel_rfl) (by kernel_rfl) (fun _ _ _ h=>h) (Or.inl ⟨by rfl,?_⟩) (by first|trivial|assumption) ?_;rotate_left;focus(intro w hSw;(try dsimp only at hSw);go_simp;(try with_reducible rfl))
       simp only[Act.put,List.setIfInBounds_toArray,List.set_cons_zero,List.set_cons_succ];refine take_to 9 (some 56) (v:= ?_) rfl rfl (by kernel_rfl) (by kernel_rfl) (by kernel_rfl) (fun _ _ _ h=>h) (Or.inl ⟨by rfl,?_⟩) (by first|trivial|assumption) ?_;rotate_left;focus(intro w hSw;(try dsimp only at hSw);go_simp;(try with_reducible rfl))
       simp only[Act.put,List.setIfInBounds_toArray,List.set_cons_zero,List.set_cons_succ];refine take_to 10 (some 57) (v:=undef) rfl rfl (by kernel_rfl) (by kernel_rfl) (by kernel_rfl) (fun _ _ _ h=>h) (Or.inr ⟨by rfl,rfl⟩) (by first|trivial|assumption) ?_;simp only[Act.put,List.setIfInBounds_toArray,List.set_cons_zero,List.set_cons_succ];refine take_to 11 (some 58) (v:=undef) rfl rfl (by kernel_rfl) (by kernel_rfl) (by kernel_rfl) (fun _ _ _ h=>h) (Or.inr ⟨by rfl,rfl⟩) (by first|trivial|assumption) ?_;simp only[Act.put,List.setIfInBounds_toArray,List.set_cons_zero,List.set_cons_succ];refine take_to 12 (some 59) (v:=undef) rfl rfl (by kernel_rfl) (by kernel_rfl) (by kernel_rfl) (fun _ _ _ h=>h) (Or.inr ⟨by rfl,rfl⟩) (by first|trivial|assumption) ?_;simp only[Act.put,List.setIfInBounds_toArray,List.set_cons_zero,List.set_cons_succ];refine take_to 13 (some 60) (v:= ?_) rfl rfl (by kernel_rfl) (by kernel_rfl) (by kernel_rfl) (fun _ _ _ h=>h) (Or.inl ⟨by rfl,?_⟩) (by first|trivial|assumption) ?_;rotate_left;focus(intro w hSw;(try dsimp only at hSw);go_simp;(try with_reducible rfl))
       simp only[Act.put,List.setIfInBounds_toArray,List.set_cons_zero,List.set_cons_succ];refine take_to 14 (some 46) (v:= ?_) rfl rfl (by kernel_rfl) (by kernel_rfl) (by kernel_rfl) (fun _ _ _ h=>h) (Or.inl ⟨by rfl,?_⟩) (by first|trivial|assumption) ?_;rotate_left;focus(intro w hSw;(try dsimp only at hSw);go_simp;(try with_reducible rfl))
       simp only[Act.put,List.setIfInBounds_toArray,List.set_cons_zero,List.set_cons_succ];refine wpAnyH_done (by kernel_rfl) ?_ _;go_wp2_with fail;go_roundw
       case rel=>exact⟨rfl,rfl,rfl,rfl,rfl,k+1,_,D,n,rfl,by go_num,by omega,by rw[HV.out];exact HR4.out,HMP.out,by omega,by rw[HV.out];exact HR2.out,HB2.out,Nat.le_trans hws HZ2.out⟩
       case measure=>simp[intOf];omega
      ·have q1:=ibeq_no h1
       clear hdel hnb h1 hany ho;generalize out.set j (noteP k (out.getD j s0) ev)=out' at*;go_wp2_with(at_lookup;refine wpList_lookup_hit _ rfl _ _ rfl w.heap.size n D rfl (HM.out.alloc _) ev.th rfl HW.out (j:Int) true HL.out (fun z=> .inr (HAT.out z)) (fun h=>by cases h) (fun _=>HAT.out) ?_);refine wp_region_held_drew (S:=fun V=>V.cell? ⟨W.heap.size,0,none⟩=some (.int .i64 ev.kind)∧V.cell? ⟨W.heap.size,1,none⟩=some (.int .i64 ev.th)∧V.cell? ⟨W.heap.size,2,none⟩=some (.bool ev.rd)∧V.cell? ⟨W.heap.size,3,none⟩=some (.int .i64 ev.ct)) (by kernel_rfl) (ev_s HE.out) (fun hHeld=> ?_);refine take_to 0 (some 47) (v:= ?_) rfl rfl (by kernel_rfl) (by kernel_rfl) (by kernel_rfl) (fun _ _ _ h=>h) (Or.inl ⟨by rfl,?_⟩) (by first|trivial|assumption) ?_;rotate_left;focus(intro w hSw;(try dsimp only at hSw);go_simp;(try with_reducible rfl))
       simp only[Act.put,List.setIfInBounds_toArray,List.set_cons_zero,List.set_cons_succ];refine take_to 1 (some 48) (v:= ?_) rfl rfl (by kernel_rfl) (by kernel_rfl) (by kernel_rfl) (fun _ _ _ h=>h) (Or.inl ⟨by rfl,?_⟩) (by first|trivial|assumption) ?_;rotate_left;focus(intro w hSw;(try dsimp only at hSw);go_simp;(try with_reducible rfl))
       simp only[Act.put,List.setIfInBounds_toArray,List.set_cons_zero,List.set_cons_succ];refine take_to 2 (some 49) (v:= ?_) rfl rfl (by kernel_rfl) (by kernel_rfl) (by kernel_rfl) (fun _ _ _ h=>h) (Or.inl ⟨by rfl,?_⟩) (by first|trivial|assumption) ?_;rotate_left;focus(intro w hSw;(try dsimp only at hSw);go_simp;(try with_reducible rfl))
       simp only[Act.put,List.setIfInBounds_toArray,List.set_cons_zero,List.set_cons_succ];refine take_to 3 (some 50) (v:= ?_) rfl rfl (by kernel_rfl) (by kernel_rfl) (by kernel_rfl) (fun _ _ _ h=>h) (Or.inl ⟨by rfl,?_⟩) (by first|trivial|assumption) ?_;rotate_left;focus(intro w hSw;(try dsimp only at hSw);go_simp;(try with_reducible rfl))
       simp only[Act.put,List.setIfInBounds_toArray,List.set_cons_zero,List.set_cons_succ];refine take_to 4 (some 51) (v:= ?_) rfl rfl (by kernel_rfl) (by kernel_rfl) (by kernel_rfl) (fun _ _ _ h=>h) (Or.inl ⟨by rfl,?_⟩) (by first|trivial|assumption) ?_;rotate_left;focus(intro w hSw;(try dsimp only at hSw);go_simp;(try with_reducible rfl))
       simp only[Act.put,List.setIfInBounds_toArray,List.set_cons_zero,List.set_cons_succ];refine take_to 5 (some 52) (v:= ?_) rfl rfl (by kernel_rfl) (by kernel_rfl) (by kernel_rfl) (fun _ _ _ h=>h) (Or.inl ⟨by rfl,?_⟩) (by first|trivial|assumption) ?_;rotate_left;focus(intro w hSw;(try dsimp only at hSw);go_simp;(try with_reducible rfl))
       simp only[Act.put,List.setIfInBounds_toArray,List.set_cons_zero,List.set_cons_succ];refine take_to 6 (some 53) (v:= ?_) rfl rfl (by kernel_rfl) (by kernel_rfl) (by kernel_rfl) (fun _ _ _ h=>h) (Or.inl ⟨by rfl,?_⟩) (by first|trivial|assumption) ?_;rotate_left;focus(intro w hSw;(try dsimp only at hSw);go_simp;(try with_reducible rfl))
       simp only[Act.put,List.setIfInBounds_toArray,List.set_cons_zero,List.set_cons_succ];refine wpAnyH_ready (rs:=[7]) (by kernel_rfl) (by simp) ?_;refine AllReadyH.cons rfl (fun K hK=> ?_) AllReadyH.nil;go_simp;refine(HN.out).mono ?_;rintro e w2 ⟨rfl,hr2,hm2⟩;go_simp;have HE2:=Lib.hid (hm2.blk (show((W.alloc (.cells #[.int .i64 ev.kind,.int .i64 ev.th,.bool ev.rd,.int .i64 ev.ct] 44)).drew).heap[W.heap.size]? =_ from HE.out) (by simp;omega));have HM2:=Lib.hid hm2;have HR4:=Lib.hid (hr2.to HL2.out);have HMP:=Lib.hid (((HM.out.alloc (.cells #[.int .i64 ev.kind,.int .i64 ev.th,.bool ev.rd,.int .i64 ev.ct] 44)).drew).kept (mod_grown1 hm2) (by intro e;injection e with e;omega));have HB2:=Lib.hid (((HB.out.alloc HB.out.size (.cells #[.int .i64 ev.kind,.int .i64 ev.th,.bool ev.rd,.int .i64 ev.ct] 44)).drew).grown (mod_grown1 hm2) (by have:=HB.out.size;show _≤(W.alloc _).heap.size;simp;omega) (fun q hq=>by injection hq with hq;omega));have HZ2:=Lib.hid (sz_ev hm2);clear hm2 hr2;refine hK.out _ _ (ev_s HE2.out) (fun hHeld=> ?_);refine take_to 8 (some 55) (v:= ?_) rfl rfl (by kernel_rfl) (by kernel_rfl) (by kernel_rfl) (fun _ _ _ h=>h) (Or.inl ⟨by rfl,?_⟩) (by first|trivial|assumption) ?_;rotate_left;focus(intro w hSw;(try dsimp only at hSw);go_simp;(try with_reducible rfl))
       simp only[Act.put,List.setIfInBounds_toArray,List.set_cons_zero,List.set_cons_succ];refine take_to 9 (some 56) (v:= ?_) rfl rfl (by kernel_rfl) (by kernel_rfl) (by kernel_rfl) (fun _ _ _ h=>h) (Or.inl ⟨by rfl,?_⟩) (by first|trivial|assumption) ?_;rotate_left;focus(intro w hSw;(try dsimp only at hSw);go_simp;(try with_reducible rfl))
       simp only[Act.put,List.setIfInBounds_toArray,List.set_cons_zero,List.set_cons_succ];refine take_to 10 (some 57) (v:=undef) rfl rfl (by kernel_rfl) (by kernel_rfl) (by kernel_rfl) (fun _ _ _ h=>h) (Or.inr ⟨by rfl,rfl⟩) (by first|trivial|assumption) ?_;simp only[Act.put,List.setIfInBounds_toArray,List.set_cons_zero,List.set_cons_succ];refine take_to 11 (some 58) (v:=undef) rfl rfl (by kernel_rfl) (by kernel_rfl) (by kernel_rfl) (fun _ _ _ h=>h) (Or.inr ⟨by rfl,rfl⟩) (by first|trivial|assumption) ?_;simp only[Act.put,List.setIfInBounds_toArray,List.set_cons_zero,List.set_cons_succ];refine take_to 12 (some 59) (v:=undef) rfl rfl (by kernel_rfl) (by kernel_rfl) (by kernel_rfl) (fun _ _ _ h=>h) (Or.inr ⟨by rfl,rfl⟩) (by first|trivial|assumption) ?_;simp only[Act.put,List.setIfInBounds_toArray,List.set_cons_zero,List.set_cons_succ];refine take_to 13 (some 60) (v:= ?_) rfl rfl (by kernel_rfl) (by kernel_rfl) (by kernel_rfl) (fun _ _ _ h=>h) (Or.inl ⟨by rfl,?_⟩) (by first|trivial|assumption) ?_;rotate_left;focus(intro w hSw;(try dsimp only at hSw);go_simp;(try with_reducible rfl))
       simp only[Act.put,List.setIfInBounds_toArray,List.set_cons_zero,List.set_cons_succ];refine take_to 14 (some 46) (v:= ?_) rfl rfl (by kernel_rfl) (by kernel_rfl) (by kernel_rfl) (fun _ _ _ h=>h) (Or.inl ⟨by rfl,?_⟩) (by first|trivial|assumption) ?_;rotate_left;focus(intro w hSw;(try dsimp only at hSw);go_simp;(try with_reducible rfl))
       simp only[Act.put,List.setIfInBounds_toArray,List.set_cons_zero,List.set_cons_succ];refine wpAnyH_done (by kernel_rfl) ?_ _;go_wp2_with fail;go_roundw
       case rel=>exact⟨rfl,rfl,rfl,rfl,rfl,k+1,_,D,n,rfl,by go_num,by omega,by rw[HV.out];exact HR4.out,HMP.out,by omega,by rw[HV.out];exact HR2.out,HB2.out,Nat.le_trans hws HZ2.out⟩
       case measure=>simp[intOf];omega
  ·obtain rfl:k=l.length:=by omega
   have i1:¬(l.length:Int)<(l.length:Int):=by omega
   obtain⟨B2,cb,rfl,_,_,hsl⟩:=own_slice hown;clear hown hbel hsl hR hmap;go_wp2_with fail;go_ret;first|exact⟨B2,⟨cb,rfl⟩,HO.out,HB.out⟩|exact⟨B2,cb,rfl,HO.out,HB.out⟩
end Go.Proofs.YtfmiioddhpkdkaaGreat.Sp
namespace Go.Proofs.YtfmiioddhpkdkaaGreat.Wr
open Go.RowKit Ara Lok Fl Ga Go.Proofs.YtfmiioddhpkdkaaGreat.Sp Wf Wn Wo Lk
def rdOn (p:Pl):Pl:={p with rd:=true}
theorem all_on (ps:List Pl):allRd (ps.map rdOn):=fun p hp=>by
 obtain⟨q,_,rfl⟩:=List.mem_map.1 hp;rfl
theorem ract_th (m:Int)(sp:List Sp)(t w:Int):(ract m sp t w).1.2.1=t∨(ract m sp t w).1.2.1=0:=by
 unfold ract
 repeat' (first|exact .inl rfl|exact .inr rfl|split)
theorem ract_wf (st:List Sp→Int→Int)(m:Int)(ps:List Pl):∀(ks:List Int) (r:Rq (List Sp)),(∀x∈ks,(Lit.int .i64 x).wf=true)→Wf r.out→Wf (ks.foldl (rqStep st (ract m) ps) r).out
 |[],_,_,h=>h
 |k::ks,r,hk,h=>by
  refine ract_wf st m ps ks _ (fun x hx=>hk x (List.mem_cons_of_mem _ hx)) (fun e he=> ?_);rcases List.mem_append.1 (show e∈r.out++ [_] from he)with h1|h1
  ·exact h e h1
  ·rw[List.mem_singleton.1 h1]
   show(Lit.int .i64 (ract m r.x k _).1.2.1).wf=true;rcases ract_th m r.x k (wantS (planOf ps k) (r.m k) (st r.x k)).1 with h2|h2
   ·rw[h2];exact hk k (List.mem_cons_self ..)
   ·rw[h2];rfl
theorem own_succ {ks:List Int}{a k:Nat}{t:Int}(h:k<ks.length)(ha:a<k):own ks a (k+1) t=own ks a k t+(if ks[k]=t then 1 else 0):=by
 unfold own;rw[List.take_succ_eq_append_getElem h,List.drop_append_of_le_length (by rw[List.length_take];omega),List.count_append,List.count_singleton];by_cases e:ks[k]=t
 ·rw[e];simp
 ·simp[e]
theorem own_le (ks:List Int)(a k:Nat)(t:Int):own ks a k t≤k:=by
 unfold own;have h1:=List.count_le_length (a:=t) (l:=(ks.take k).drop (a+1));rw[List.length_drop,List.length_take]at h1;omega
theorem stay_in (l:List E):∀s∈outP l l.length,OkS l.length s∧(s.en<0∨s.ask<s.en):=fun s hs=>by
 rw[of_eq]at hs;refine⟨outR_ok l s hs,?_⟩;obtain⟨a,e,ha,rfl⟩:=asked l l.length s hs;have r:=bh_range l (a:Int) 2 e.th;show bh l (a:Int) 2 e.th<0∨(a:Int)<bh l (a:Int) 2 e.th;omega
theorem readers_plain {P:Rp}(O:RpOk P){x0:Ar×List Sp}(h:OkR P x0 40)(hx:x0.2=List.replicate P.T sp0){ps:List Pl}(ha:allRd ps)(ks:List Int)(hk:∀x∈ks,(Lit.int .i64 x).wf=true):
 Wf (rqL (ldR P).st (wact (ldR P)) ps x0 ks).out∧∀s∈outP (rqL (ldR P).st (wact (ldR P)) ps x0 ks).out ks.length,∃a b:Nat,s.ask=(a:Int)∧a<b∧b≤ks.length∧(if s.en<0 then(ks.length:Int)else s.en)=(b:Int)∧own ks a b s.th≤2:=by
 have hr:=(run_r O ha ks ⟨x0,fun _=>mi0,[]⟩ ⟨List.replicate P.T sp0,fun _=>mi0,[]⟩ 0 h hx rfl rfl (fun _=>Int.le_refl _)).2;have hl:=rqL_len (ldR P).st (wact (ldR P)) ps x0 ks;have hri:=run_ri P.m P.T ps ks;have hw:=ract_wf (fun sp t=>gst (spOf sp t)) P.m ps ks ⟨List.replicate P.T sp0,fun _=>mi0,[]⟩ hk (fun e he=>absurd he List.not_mem_nil);have e1:(rqL (ldR P).st (wact (ldR P)) ps x0 ks).out=(rqL (fun sp t=>gst (spOf sp t)) (ract P.m) ps (List.replicate P.T sp0) ks).out:=hr;rw[←hl,e1];refine⟨hw,fun s hs=> ?_⟩;obtain⟨a,h1,h2,h3⟩:=hri.owns hs;obtain⟨⟨-,-,o3,o4⟩,o5⟩:=stay_in _ s hs;rw[←e1,hl]at o4⊢;by_cases he:s.en<0
 ·rw[if_pos he]at h3
  exact⟨a,ks.length,h1,h2,Nat.le_refl _,if_pos he,h3⟩
 ·rw[if_neg he]at h3
  refine⟨a,s.en.toNat,h1,by omega,by omega,?_,h3⟩;rw[if_neg he];omega
end Go.Proofs.YtfmiioddhpkdkaaGreat.Wr
namespace Go.Proofs.YtfmiioddhpkdkaaGreat.Wq
open Go.RowKit Ara
theorem GIW.up {gw:Nat}{X:Type}{Gt:Nat→World→X→Prop}{st:X→Int→Int}{rd:X→Int→Bool}{act:X→Int→Int→Wf.Ev4×X}{may:Int→Prop}{S:List Nat}{L L':Nat}(h:GIW gw X Gt st rd act may S L)(hL:L≤L'):GIW gw X Gt st rd act may S L':=
 ⟨fun q hq=>Nat.lt_of_lt_of_le (h.lt q hq) hL,fun k W W' x K hb=>h.keep k W W' x K (hb.mono hL),h.sh,h.state,h.doit⟩
theorem own_sl {S:List Nat}{base n c size:Nat}{e:TypeId}{W W':World}{A:Option Addr}{xs:List Value}(h:W.ownsRow base e size (.slice A n c) n xs)(hm:Mod S W W')(hS:∀k∈S,k<base):Sl W' W.heap.size A xs:=by
 obtain⟨A1,c1,e1,_,_,h1⟩:=own_slice h;obtain⟨A2,c2,e2,_,_,h2⟩:=own_slice (own_mod h hm (fun q hq=> .inl (hS q hq)));injection e1 with e1;injection e2 with e2;subst e1;subst e2;rcases h1 with h1|⟨b,off,hA,hb,_⟩
 ·exact .inl h1
 ·rcases h2 with h2|⟨b2,off2,hA2,_,hc⟩
  ·exact .inl h2
  ·rw[hA]at hA2
   cases hA2
   exact .inr ⟨b,off,hA,hb,hc⟩
end Go.Proofs.YtfmiioddhpkdkaaGreat.Wq
