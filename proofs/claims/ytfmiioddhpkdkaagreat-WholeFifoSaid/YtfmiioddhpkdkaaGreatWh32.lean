/- Merged texts: Ff2, Ff3, FfL, FfM, TpB. -/
import Derived.Test.YtfmiioddhpkdkaaGreatWh31
import Derived.Deep.Cut
import Derived.Deep.CutBlock
import Derived.Deep.RegionHeld3
import Derived.RegionTactic
import Derived.BigRegion
set_option linter.unusedVariables false
set_option linter.unusedSimpArgs false
namespace Go.Proofs.YtfmiioddhpkdkaaGreat.Ff
open Go.RowKit Go.Proofs.YtfmiioddhpkdkaaGreat.Ara Go.Proofs.YtfmiioddhpkdkaaGreat.Sp Go.Proofs.YtfmiioddhpkdkaaGreat.Wf
theorem frame25 {a:Act}(h:a.tmps.size=25)(hd:a.defers=[]):∃u:Nat→Value,a={tmps:= #[u 0,u 1,u 2,u 3,u 4,u 5,u 6,u 7,u 8,u 9,u 10,u 11,u 12,u 13,u 14,u 15,u 16,u 17,u 18,u 19,u 20,u 21,u 22,u 23,u 24],defers:=[]}∧∀n,a.tmps.getD n undef=u n:=by
 refine⟨fun n=>a.tmps.getD n undef,?_,fun _=>rfl⟩;have h1:=arr_lit a.tmps h;cases a with
 |mk t d=>
  simp only at hd h1;subst hd;congr 1
def stO (s:St):Obj:= .cells #[.int .i64 s.th,.bool s.rd,.int .i64 s.ask,.int .i64 s.en,.int .i64 s.ex,.int .i64 s.re,.int .i64 s.ct] 40
theorem st_cells {W:World}{g:Nat}{s:St}(h:W.heap[g]? =some (stO s)):(W.cell? ⟨g,0,none⟩=some (.int .i64 s.th)∧W.cell? ⟨g,1,none⟩=some (.bool s.rd)∧W.cell? ⟨g,2,none⟩=some (.int .i64 s.ask))∧(W.cell? ⟨g,3,none⟩=some (.int .i64 s.en)∧W.cell? ⟨g,4,none⟩=some (.int .i64 s.ex))∧W.cell? ⟨g,5,none⟩=some (.int .i64 s.re)∧W.cell? ⟨g,6,none⟩=some (.int .i64 s.ct):=
 ⟨⟨blk_cell h 0 (by simp),blk_cell h 1 (by simp),blk_cell h 2 (by simp)⟩,⟨blk_cell h 3 (by simp),blk_cell h 4 (by simp)⟩,blk_cell h 5 (by simp),blk_cell h 6 (by simp)⟩
set_option maxRecDepth 100000 in
set_option maxHeartbeats 4000000 in
theorem clo_any (x y:St)(n c:Nat)(B:Option Addr)(gb:Nat)(w:World)(hl:gb<w.heap.size)(hb:w.cell? ⟨gb,0,none⟩=some (.slice B n c)):
 Calls Tryz.prog 29 #[vSt x,vSt y,.pointer (some ⟨gb,0,none⟩)] w fun e w'=>e= .returned (.int .i64 (cmpI (ent n x) (ent n y)))∧Below w.heap.size w w':=by
 have hx:=entered_any x n;have hy:=entered_any y n;have hc:=fun W=>cmp_any (ent n x) (ent n y) W;generalize ent n x=ex at*;generalize ent n y=ey at*;have HX:=Lib.hid hx;have HY:=Lib.hid hy;have HC:=Lib.hid hc
 have hcell:∀ {V V':World},gb<V.heap.size→Below V.heap.size V V'→V'.cell? ⟨gb,0,none⟩=V.cell? ⟨gb,0,none⟩:=fun h1 h2=>by
  unfold World.cell?;rw[h2.block _ h1]
 have h1:=below_new w (stO x);have x1:=blk_new w (stO x);have z1:(w.alloc (stO x)).heap.size=w.heap.size+1:=by simp
 have h2:=below_new (w.alloc (stO x)) (stO y);have x2:=blk_new (w.alloc (stO x)) (stO y);rw[z1]at x2;have b2:=h1.trans (h2.mono h1.size);have e2:=(hcell hl b2).trans hb;have hl2:gb<((w.alloc (stO x)).alloc (stO y)).heap.size:=Nat.lt_of_lt_of_le hl b2.size;have HB:=Lib.hid (Below.drew b2);have X1:=Lib.hid ((Mod.of_below (S:=[]) h2).blk x1 (by simp));have X2:=Lib.hid x2;clear hx hy hc h1 x1 h2 x2 b2 hb z1;generalize hW:(w.alloc (stO x)).alloc (stO y)=W2 at*;obtain⟨xt,xr,xa,xe,xx,xq,xc⟩:=x;obtain⟨yt,yr,ya,ye,yx,yq,yc⟩:=y;unfold stO at hW;simp only[vSt,dSt]at HX HY⊢;simp only at hW;go_enter Tryz.func29,Tryz.ntmps29;go_wp2_with fail;clear hW;go_upto_region 1 with fail;have Y1:=Lib.hid (show W2.drew.heap[w.heap.size]? =some (stO ⟨xt,xr,xa,xe,xx,xq,xc⟩) from X1.out);have Y2:=Lib.hid (show W2.drew.heap[w.heap.size+1]? =some (stO ⟨yt,yr,ya,ye,yx,yq,yc⟩) from X2.out);have f2:W2.drew.cell? ⟨gb,0,none⟩=some (.slice B n c):=e2;have l2:gb<W2.drew.heap.size:=hl2;have SW:=And.intro f2 (And.intro (st_cells Y1.out) (st_cells Y2.out));refine wp_region_held_drew (S:=fun V=>V.cell? ⟨gb,0,none⟩=some (.slice B n c)∧((V.cell? ⟨w.heap.size,0,none⟩=some (.int .i64 xt)∧V.cell? ⟨w.heap.size,1,none⟩=some (.bool xr)∧V.cell? ⟨w.heap.size,2,none⟩=some (.int .i64 xa))∧(V.cell? ⟨w.heap.size,3,none⟩=some (.int .i64 xe)∧V.cell? ⟨w.heap.size,4,none⟩=some (.int .i64 xx))∧V.cell? ⟨w.heap.size,5,none⟩=some (.int .i64 xq)∧V.cell? ⟨w.heap.size,6,none⟩=some (.int .i64 xc))∧((V.cell? ⟨w.heap.size+1,0,none⟩=some (.int .i64 yt)∧V.cell? ⟨w.heap.size+1,1,none⟩=some (.bool yr)∧V.cell? ⟨w.heap.size+1,2,none⟩=some (.int .i64 ya))∧(V.cell? ⟨w.heap.size+1,3,none⟩=some (.int .i64 ye)∧V.cell? ⟨w.heap.size+1,4,none⟩=some (.int .i64 yx))∧V.cell? ⟨w.heap.size+1,5,none⟩=some (.int .i64 yq)∧V.cell? ⟨w.heap.size+1,6,none⟩=some (.int .i64 yc))) (by kernel_rfl) SW (fun hHeld=> ?_);clear X1 X2 e2 hl2;generalize W2.drew=W3 at*;refine take_to 0 (some 6) (v:= ?_) rfl rfl (by kernel_rfl) (by kernel_rfl) (by kernel_rfl) (fun _ _ _ h=>h) (Or.inl ⟨by rfl,?_⟩) (by first|trivial|assumption) ?_;rotate_left;focus(intro w hSw;(try dsimp only at hSw);go_simp;(try with_reducible rfl))
 simp only[Act.put,List.setIfInBounds_toArray,List.set_cons_zero,List.set_cons_succ];refine take_to 1 (some 7) (v:= ?_) rfl rfl (by kernel_rfl) (by kernel_rfl) (by kernel_rfl) (fun _ _ _ h=>h) (Or.inl ⟨by rfl,?_⟩) (by first|trivial|assumption) ?_;rotate_left;focus(intro w hSw;(try dsimp only at hSw);go_simp;(try with_reducible rfl))
 simp only[Act.put,List.setIfInBounds_toArray,List.set_cons_zero,List.set_cons_succ];refine take_to 2 (some 8) (v:= ?_) rfl rfl (by kernel_rfl) (by kernel_rfl) (by kernel_rfl) (fun _ _ _ h=>h) (Or.inl ⟨by rfl,?_⟩) (by first|trivial|assumption) ?_;rotate_left;focus(intro w hSw;(try dsimp only at hSw);go_simp;(try with_reducible rfl))
 simp only[Act.put,List.setIfInBounds_toArray,List.set_cons_zero,List.set_cons_succ];refine take_to 4 (some 10) (v:= ?_) rfl rfl (by kernel_rfl) (by kernel_rfl) (by kernel_rfl) (fun _ _ _ h=>h) (Or.inl ⟨by rfl,?_⟩) (by first|trivial|assumption) ?_;rotate_left;focus(intro w hSw;(try dsimp only at hSw);go_simp;(try with_reducible rfl))
 simp only[Act.put,List.setIfInBounds_toArray,List.set_cons_zero,List.set_cons_succ];refine take_to 5 (some 11) (v:= ?_) rfl rfl (by kernel_rfl) (by kernel_rfl) (by kernel_rfl) (fun _ _ _ h=>h) (Or.inl ⟨by rfl,?_⟩) (by first|trivial|assumption) ?_;rotate_left;focus(intro w hSw;(try dsimp only at hSw);go_simp;(try with_reducible rfl))
 simp only[Act.put,List.setIfInBounds_toArray,List.set_cons_zero,List.set_cons_succ];refine take_to 6 (some 12) (v:= ?_) rfl rfl (by kernel_rfl) (by kernel_rfl) (by kernel_rfl) (fun _ _ _ h=>h) (Or.inl ⟨by rfl,?_⟩) (by first|trivial|assumption) ?_;rotate_left;focus(intro w hSw;(try dsimp only at hSw);go_simp;(try with_reducible rfl))
 simp only[Act.put,List.setIfInBounds_toArray,List.set_cons_zero,List.set_cons_succ];refine wpAnyH_ready (rs:=[3]) (by kernel_rfl) (by simp) ?_;refine AllReadyH.cons rfl (fun K hK=> ?_) AllReadyH.nil;go_simp;refine(HX.out W3).mono ?_;rintro e W4 ⟨rfl,b4⟩;have HB4:=Lib.hid (HB.out.trans (b4.mono HB.out.size));have Z1:=Lib.hid ((Mod.of_below (S:=[]) b4).blk Y1.out (by simp));have Z2:=Lib.hid ((Mod.of_below (S:=[]) b4).blk Y2.out (by simp));have f4:=(hcell l2 b4).trans f2;have l4:gb<W4.heap.size:=Nat.lt_of_lt_of_le l2 b4.size;have SW4:=And.intro f4 (And.intro (st_cells Z1.out) (st_cells Z2.out));clear b4 Y1 Y2 f2 l2 SW HB HX;go_simp;refine hK.out _ _ SW4 (fun hHeld=> ?_);refine wpAnyH_ready (rs:=[7]) (by kernel_rfl) (by simp) ?_;refine AllReadyH.cons rfl (fun K hK=> ?_) AllReadyH.nil;go_simp;refine(HY.out W4).mono ?_;rintro e W5 ⟨rfl,b5⟩;have HB5:=Lib.hid (HB4.out.trans (b5.mono HB4.out.size));have V1:=Lib.hid ((Mod.of_below (S:=[]) b5).blk Z1.out (by simp));have V2:=Lib.hid ((Mod.of_below (S:=[]) b5).blk Z2.out (by simp));have f5:=(hcell l4 b5).trans f4;have SW5:=And.intro f5 (And.intro (st_cells V1.out) (st_cells V2.out));clear b5 Z1 Z2 f4 l4 SW4 HB4 HY hcell;go_simp;refine hK.out _ _ SW5 (fun hHeld=> ?_);refine wpAnyH_ready (rs:=[8]) (by kernel_rfl) (by simp) ?_;refine AllReadyH.cons rfl (fun K hK=> ?_) AllReadyH.nil;go_simp;refine(HC.out W5).mono ?_;rintro e wx ⟨rfl,hwx⟩;obtain rfl:=hwx.symm;go_simp;refine hK.out _ _ SW5 (fun hHeld=> ?_);refine take_to 9 (some 5) (v:= ?_) rfl rfl (by kernel_rfl) (by kernel_rfl) (by kernel_rfl) (fun _ _ _ h=>h) (Or.inl ⟨by rfl,?_⟩) (by first|trivial|assumption) ?_;rotate_left;focus(intro w hSw;(try dsimp only at hSw);go_simp;(try with_reducible rfl))
 simp only[Act.put,List.setIfInBounds_toArray,List.set_cons_zero,List.set_cons_succ];refine wpAnyH_done (by kernel_rfl) ?_ _;clear SW5;go_wp2_with fail;go_ret;exact⟨rfl,HB5.out⟩
def SoJ (fv:Value)(n:Nat)(A:Option Addr)(cap:Nat)(w:World)(a:Act)(W:World):Prop:=
 a.tmps.size=25∧a.defers=[]∧a.tmps.getD 0 undef= .slice A n cap∧a.tmps.getD 1 undef=fv∧∃j:Int,a.tmps.getD 5 undef= .int .i64 j∧-1≤j∧j<(n:Int)∧Below w.heap.size w W
set_option maxRecDepth 100000 in
set_option maxHeartbeats 4000000 in
theorem sorted_any (out:List St)(n c:Nat)(B:Option Addr)(gb:Nat)(A:Option Addr)(cap:Nat)(w:World)(hl:gb<w.heap.size)(hb:w.cell? ⟨gb,0,none⟩=some (.slice B n c))(hm:out.length≤1000)(hs:Sl w w.heap.size A (out.flatMap dSt))(hp:out.Pairwise fun x y=>ent n x≤ent n y):
 Calls Tryz.prog 28 #[.slice A out.length cap,.func (.func 29) #[] #[.pointer (some ⟨gb,0,none⟩)]] w fun e w'=>e= .returned (.bool true)∧Below w.heap.size w w':=by
 have HS:=Lib.hid hs;have HP:=Lib.hid hp
 have HCL:=Lib.hid (fun x y W (h:Below w.heap.size w W)=>clo_any x y n c B gb W (Nat.lt_of_lt_of_le hl h.size) (by
  rw[show W.cell? ⟨gb,0,none⟩=w.cell? ⟨gb,0,none⟩ by unfold World.cell?;rw[h.block _ hl]];exact hb))
 clear hs hp hb;go_enter Tryz.func28,Tryz.ntmps28;go_wp2_with fail;refine wp_loop (SoJ (.func (.func 29) #[] #[.pointer (some ⟨gb,0,none⟩)]) out.length A cap w) (fun a' _=>(intOf (a'.tmps.getD 5 undef)).toNat) ?_ ?_
 ·exact⟨rfl,rfl,rfl,rfl,(out.length:Int)-1,by go_num,by omega,by omega,Below.refl _ _⟩
 ·rintro a' W ⟨hsz,hdf,s0,s1,j,s5,j0,j1,hB⟩
  obtain⟨u,rfl,hu⟩:=frame25 hsz hdf;rw[hu]at s0 s1 s5;simp only[s0,s1,s5];clear hsz hdf s0 s1 s5 hu;have HB:=Lib.hid hB;clear hB;by_cases hj:0<j
  ·obtain⟨m,rfl⟩:∃m:Nat,j=(m:Int)+1:=⟨(j-1).toNat,by omega⟩
   have hz:=HB.out.size;have hmn:m+1<out.length:=by omega
   obtain⟨b,off,rfl,hbb,-⟩:=sl_st7 HS.out (by omega)
   have hcell:∀V,Below w.heap.size w V→(V.cell? ⟨b,off+(m+1)*7,none⟩=some (.int .i64 (out.getD (m+1) s0).th)∧V.cell? ⟨b,off+(m+1)*7+1,none⟩=some (.bool (out.getD (m+1) s0).rd)∧V.cell? ⟨b,off+(m+1)*7+2,none⟩=some (.int .i64 (out.getD (m+1) s0).ask)∧V.cell? ⟨b,off+(m+1)*7+3,none⟩=some (.int .i64 (out.getD (m+1) s0).en)∧V.cell? ⟨b,off+(m+1)*7+4,none⟩=some (.int .i64 (out.getD (m+1) s0).ex)∧V.cell? ⟨b,off+(m+1)*7+5,none⟩=some (.int .i64 (out.getD (m+1) s0).re)∧V.cell? ⟨b,off+(m+1)*7+6,none⟩=some (.int .i64 (out.getD (m+1) s0).ct))∧(V.cell? ⟨b,off+m*7,none⟩=some (.int .i64 (out.getD m s0).th)∧V.cell? ⟨b,off+m*7+1,none⟩=some (.bool (out.getD m s0).rd)∧V.cell? ⟨b,off+m*7+2,none⟩=some (.int .i64 (out.getD m s0).ask)∧V.cell? ⟨b,off+m*7+3,none⟩=some (.int .i64 (out.getD m s0).en)∧V.cell? ⟨b,off+m*7+4,none⟩=some (.int .i64 (out.getD m s0).ex)∧V.cell? ⟨b,off+m*7+5,none⟩=some (.int .i64 (out.getD m s0).re)∧V.cell? ⟨b,off+m*7+6,none⟩=some (.int .i64 (out.getD m s0).ct)):=fun V h=>by
    obtain⟨b',off',e,_,hc⟩:=sl_st7 (Sl.below HS.out h) (by omega);have e1:b=b':=by injection e with e;injection e
    have e2:off=off':=by injection e with e;injection e
    subst e1 e2;exact And.intro (hc (m+1) hmn) (hc m (by omega))
   have HCELL:=Lib.hid hcell;clear hcell
   have hle:ent n (out.getD m s0)≤ent n (out.getD (m+1) s0):=by
    have h1:=List.pairwise_iff_getElem.1 HP.out m (m+1) (by omega) hmn (by omega);rw[List.getD_eq_getElem?_getD,List.getD_eq_getElem?_getD,List.getElem?_eq_getElem (show m<out.length by omega),List.getElem?_eq_getElem hmn];exact h1
   have HCX:=Lib.hid (fun V h=>HCL.out (out.getD (m+1) s0) (out.getD m s0) V h);clear HS HP HCL hj;generalize out.getD (m+1) s0=x at*;generalize out.getD m s0=y at*;have hq:¬cmpI (ent n x) (ent n y)<0:=by unfold cmpI;rw[if_neg (by omega)];split<;>omega
   have i0:(m:Int)+1<(out.length:Int):=by omega
   have i1:(m:Int)<(out.length:Int):=by omega
   have i2:(0:Int)<(m:Int)+1:=by omega
   have i3:(0:Int)≤(m:Int)+1:=by omega
   have i4:(0:Int)≤(m:Int):=by omega
   have e1:((m:Int)+1).toNat=m+1:=by omega
   have e2:IntKind.i64.wrap (m:Int)=(m:Int):=IntWalk.i64_in _ (by omega);clear hle;generalize cmpI (ent n x) (ent n y)=q at*;go_upto_region 4 with fail;have HBd:=Lib.hid (show Below w.heap.size w W.drew from Below.drew HB.out);have SW:=HCELL.out _ HBd.out;refine wp_region_held_drew (S:=fun V=>(V.cell? ⟨b,off+(m+1)*7,none⟩=some (.int .i64 (x).th)∧V.cell? ⟨b,off+(m+1)*7+1,none⟩=some (.bool (x).rd)∧V.cell? ⟨b,off+(m+1)*7+2,none⟩=some (.int .i64 (x).ask)∧V.cell? ⟨b,off+(m+1)*7+3,none⟩=some (.int .i64 (x).en)∧V.cell? ⟨b,off+(m+1)*7+4,none⟩=some (.int .i64 (x).ex)∧V.cell? ⟨b,off+(m+1)*7+5,none⟩=some (.int .i64 (x).re)∧V.cell? ⟨b,off+(m+1)*7+6,none⟩=some (.int .i64 (x).ct))∧(V.cell? ⟨b,off+m*7,none⟩=some (.int .i64 (y).th)∧V.cell? ⟨b,off+m*7+1,none⟩=some (.bool (y).rd)∧V.cell? ⟨b,off+m*7+2,none⟩=some (.int .i64 (y).ask)∧V.cell? ⟨b,off+m*7+3,none⟩=some (.int .i64 (y).en)∧V.cell? ⟨b,off+m*7+4,none⟩=some (.int .i64 (y).ex)∧V.cell? ⟨b,off+m*7+5,none⟩=some (.int .i64 (y).re)∧V.cell? ⟨b,off+m*7+6,none⟩=some (.int .i64 (y).ct))) (by kernel_rfl) SW (fun hHeld=> ?_);clear HB;generalize W.drew=W2 at*;refine take_to 0 (some 13) (v:= ?_) rfl rfl (by kernel_rfl) (by kernel_rfl) (by kernel_rfl) (fun _ _ _ h=>h) (Or.inl ⟨by rfl,?_⟩) (by first|trivial|assumption) ?_;rotate_left;focus(intro w hSw;(try dsimp only at hSw);go_simp;(try with_reducible rfl))
   simp only[Act.put,List.setIfInBounds_toArray,List.set_cons_zero,List.set_cons_succ];refine take_to 1 (some 14) (v:= ?_) rfl rfl (by kernel_rfl) (by kernel_rfl) (by kernel_rfl) (fun _ _ _ h=>h) (Or.inl ⟨by rfl,?_⟩) (by first|trivial|assumption) ?_;rotate_left;focus(intro w hSw;(try dsimp only at hSw);go_simp;(try with_reducible rfl))
   simp only[Act.put,List.setIfInBounds_toArray,List.set_cons_zero,List.set_cons_succ];refine take_to 2 (some 15) (v:= ?_) rfl rfl (by kernel_rfl) (by kernel_rfl) (by kernel_rfl) (fun _ _ _ h=>h) (Or.inl ⟨by rfl,?_⟩) (by first|trivial|assumption) ?_;rotate_left;focus(intro w hSw;(try dsimp only at hSw);go_simp;(try with_reducible rfl))
   simp only[Act.put,List.setIfInBounds_toArray,List.set_cons_zero,List.set_cons_succ];refine take_to 3 (some 16) (v:= ?_) rfl rfl (by kernel_rfl) (by kernel_rfl) (by kernel_rfl) (fun _ _ _ h=>h) (Or.inl ⟨by rfl,?_⟩) (by first|trivial|assumption) ?_;rotate_left;focus(intro w hSw;(try dsimp only at hSw);go_simp;(try with_reducible rfl))
   simp only[Act.put,List.setIfInBounds_toArray,List.set_cons_zero,List.set_cons_succ];refine take_to 4 (some 17) (v:= ?_) rfl rfl (by kernel_rfl) (by kernel_rfl) (by kernel_rfl) (fun _ _ _ h=>h) (Or.inl ⟨by rfl,?_⟩) (by first|trivial|assumption) ?_;rotate_left;focus(intro w hSw;(try dsimp only at hSw);go_simp;(try with_reducible rfl))
   simp only[Act.put,List.setIfInBounds_toArray,List.set_cons_zero,List.set_cons_succ];refine take_to 5 (some 18) (v:= ?_) rfl rfl (by kernel_rfl) (by kernel_rfl) (by kernel_rfl) (fun _ _ _ h=>h) (Or.inl ⟨by rfl,?_⟩) (by first|trivial|assumption) ?_;rotate_left;focus(intro w hSw;(try dsimp only at hSw);go_simp;(try with_reducible rfl))
   simp only[Act.put,List.setIfInBounds_toArray,List.set_cons_zero,List.set_cons_succ];refine take_to 6 (some 19) (v:= ?_) rfl rfl (by kernel_rfl) (by kernel_rfl) (by kernel_rfl) (fun _ _ _ h=>h) (Or.inl ⟨by rfl,?_⟩) (by first|trivial|assumption) ?_;rotate_left;focus(intro w hSw;(try dsimp only at hSw);go_simp;(try with_reducible rfl))
   simp only[Act.put,List.setIfInBounds_toArray,List.set_cons_zero,List.set_cons_succ];refine take_to 7 (some 20) (v:= ?_) rfl rfl (by kernel_rfl) (by kernel_rfl) (by kernel_rfl) (fun _ _ _ h=>h) (Or.inl ⟨by rfl,?_⟩) (by first|trivial|assumption) ?_;rotate_left;focus(intro w hSw;(try dsimp only at hSw);go_simp;(try with_reducible rfl))
   simp only[Act.put,List.setIfInBounds_toArray,List.set_cons_zero,List.set_cons_succ];refine take_to 8 (some 21) (v:= ?_) rfl rfl (by kernel_rfl) (by kernel_rfl) (by kernel_rfl) (fun _ _ _ h=>h) (Or.inl ⟨by rfl,?_⟩) (by first|trivial|assumption) ?_;rotate_left;focus(intro w hSw;(try dsimp only at hSw);go_simp;(try with_reducible rfl))
   simp only[Act.put,List.setIfInBounds_toArray,List.set_cons_zero,List.set_cons_succ];refine take_to 9 (some 22) (v:= ?_) rfl rfl (by kernel_rfl) (by kernel_rfl) (by kernel_rfl) (fun _ _ _ h=>h) (Or.inl ⟨by rfl,?_⟩) (by first|trivial|assumption) ?_;rotate_left;focus(intro w hSw;(try dsimp only at hSw);go_simp;(try with_reducible rfl))
   simp only[Act.put,List.setIfInBounds_toArray,List.set_cons_zero,List.set_cons_succ];refine wpAnyH_ready (rs:=[10]) (by kernel_rfl) (by simp) ?_;refine AllReadyH.cons rfl (fun K hK=> ?_) AllReadyH.nil;go_simp;refine(HCX.out W2 HBd.out).mono ?_;rintro e W3 ⟨rfl,b3⟩;have HB3:=Lib.hid (HBd.out.trans (b3.mono HBd.out.size));have SW3:=HCELL.out _ HB3.out;clear b3 SW HBd
   (try go_simp)
   refine hK.out _ _ SW3 (fun hHeld=> ?_);refine take_to 11 (some 24) (v:= ?_) rfl rfl (by kernel_rfl) (by kernel_rfl) (by kernel_rfl) (fun _ _ _ h=>h) (Or.inl ⟨by rfl,?_⟩) (by first|trivial|assumption) ?_;rotate_left;focus(intro w hSw;(try dsimp only at hSw);go_simp;(try with_reducible rfl))
   simp only[Act.put,List.setIfInBounds_toArray,List.set_cons_zero,List.set_cons_succ];refine wpAnyH_done (by kernel_rfl) ?_ _;clear SW3;go_wp2_with fail;go_roundw
   case rel=>exact⟨rfl,rfl,rfl,rfl,(m:Int),by go_num,by omega,by omega,HB3.out⟩
   case measure=>simp[intOf];omega
  ·have i1:¬0<j:=hj
   go_wp2_with fail;go_ret;exact⟨rfl,HB.out⟩
end Go.Proofs.YtfmiioddhpkdkaaGreat.Ff
namespace Go.Proofs.YtfmiioddhpkdkaaGreat.Ff
open Go.RowKit Go.Proofs.YtfmiioddhpkdkaaGreat.Ara Go.Proofs.YtfmiioddhpkdkaaGreat.Sp Go.Proofs.YtfmiioddhpkdkaaGreat.Wf
theorem outP_len' (l:List E):(outP l l.length).length≤l.length:=outP_len l l.length
set_option maxRecDepth 100000 in
theorem fifo_any (l:List E)(A:Option Addr)(cap:Nat)(w:World)(hm:l.length≤1000)(hwf:Wf l)(hs:Sl w w.heap.size A (l.flatMap dE))(hp:(outP l l.length).Pairwise fun x y=>ent l.length x≤ent l.length y):
 Calls Tryz.prog 12 #[.slice A l.length cap] w fun e w'=>e= .returned (.bool true)∧Below w.heap.size w w':=by
 have hmf:∀(fn:Fn) (first cap:Array Value) (w:World),(Instr.makeFunc fn first cap).run Tryz.prog w= .ok (.func fn first cap) w:=fun _ _ _ _=>rfl;have hb1:=below_new w (.cells #[.slice A l.length cap] 35);have hx1:=blk_new w (.cells #[.slice A l.length cap] 35);have HO:=Lib.hid (of_any l A cap (w.alloc (.cells #[.slice A l.length cap] 35)) hm hwf ((Sl.below hs hb1).more hb1.size));have HB1:=Lib.hid hb1;have HX1:=Lib.hid hx1;have HP:=Lib.hid hp;have hl:=outP_len' l;have hz:(w.alloc (.cells #[.slice A l.length cap] 35)).heap.size=w.heap.size+1:=by simp
 clear hs hp hwf hb1 hx1;go_enter Tryz.func12,Tryz.ntmps12;go_wp2_with fail;refine HO.out.mono ?_;rintro e W2 ⟨B,c2,rfl,hown,hb2⟩;have hx2:=(Mod.of_below (S:=[]) hb2).blk HX1.out (by simp);have c0:=blk_cell hx2 0 (by simp);simp only[List.getElem_toArray,List.getElem_cons_zero]at c0;have HQ:=Lib.hid (sorted_any (outP l l.length) l.length cap A w.heap.size B c2 W2 (lt_of_blk hx2) c0 (by omega) (own_sl7 hown) HP.out);have HB2:=Lib.hid (HB1.out.trans (hb2.mono HB1.out.size));clear hx2 hown hb2 HO HB1 HX1 HP c0;go_wp2_with fail;refine HQ.out.mono ?_;rintro e W3 ⟨rfl,hb3⟩;have HB3:=Lib.hid (HB2.out.trans (hb3.mono HB2.out.size));clear hb3;go_wp2_with fail;go_ret;exact⟨rfl,HB3.out⟩
end Go.Proofs.YtfmiioddhpkdkaaGreat.Ff
namespace Go.Proofs.YtfmiioddhpkdkaaGreat.Tq
open Go.RowKit Go.Proofs.YtfmiioddhpkdkaaGreat.Ara Go.Proofs.YtfmiioddhpkdkaaGreat.Tp Go.Proofs.YtfmiioddhpkdkaaGreat.Lok Go.Proofs.YtfmiioddhpkdkaaGreat.Wo Go.Proofs.YtfmiioddhpkdkaaGreat.Co Go.Proofs.YtfmiioddhpkdkaaGreat.Cm Go.Proofs.YtfmiioddhpkdkaaGreat.Wf Go.Proofs.YtfmiioddhpkdkaaGreat.Fl
open Go.Proofs.YtfmiioddhpkdkaaGreat.Sp (E dE outP Wf)
theorem frame73 {a:Act}(h:a.tmps.size=73)(hd:a.defers=[]):∃u:Nat→Value,a={tmps:= #[u 0,u 1,u 2,u 3,u 4,u 5,u 6,u 7,u 8,u 9,u 10,u 11,u 12,u 13,u 14,u 15,u 16,u 17,u 18,u 19,u 20,u 21,u 22,u 23,u 24,u 25,u 26,u 27,u 28,u 29,u 30,u 31,u 32,u 33,u 34,u 35,u 36,u 37,u 38,u 39,u 40,u 41,u 42,u 43,u 44,u 45,u 46,u 47,u 48,u 49,u 50,u 51,u 52,u 53,u 54,u 55,u 56,u 57,u 58,u 59,u 60,u 61,u 62,u 63,u 64,u 65,u 66,u 67,u 68,u 69,u 70,u 71,u 72],defers:=[]}∧∀n,a.tmps.getD n undef=u n:=by
 refine⟨fun n=>a.tmps.getD n undef,?_,fun _=>rfl⟩;have h1:=arr_lit a.tmps h;cases a with
 |mk t d=>
  simp only at hd h1;subst hd;congr 1
abbrev ffAt (gw ga gt gl:Nat)(c:Fp)(pk:PK)(T L k:Nat)(W:World)(x:Ar×List Sp):Prop:=WoA gw ga gt gl (ldF pk T) (fun k W x=>FA c pk T 0 L k W x∧L≤W.heap.size) [c.ga,c.ha,c.hs] L k W x
abbrev ffLI (gl:Nat)(c:Fp)(pk:PK)(T L:Nat):Prop:=LI gl (ldF pk T) (fun k W x=>FA c pk T 0 L k W x∧L≤W.heap.size) (fun b=>b=false) [c.ga,c.ha,c.hs] L
structure FfW (gw ga gt gl:Nat)(c:Fp)(pk:PK)(T L B0:Nat)(w:World)(s:Rs)(n:Nat)(v:Value)(W:World):Prop where
 k:ffAt gw ga gt gl c pk T L s.2.length W s.1
 own:W.ownsRow B0 44 4 v s.2.length (s.2.flatMap dE)
 n:s.2.length≤n
 b:Below w.heap.size w W
 sz:L≤B0∧B0≤W.heap.size∧w.heap.size≤B0
theorem fstp_len (p:PK)(s:Rs)(x:Int×Int):(fstp p s x).2.length=s.2.length+1:=by
 show(s.2++ [_]).length=_;rw[List.length_append,List.length_singleton]
def fk (p:PK)(s:Rs)(x:Int×Int):Nat→Rs
 |0=>fstp p s x
 |k+1=>fstp p (fk p s x k) (x.1,0)
theorem fk_pick (p:PK)(s:Rs)(x:Int×Int){k:Nat}(h:(x.2=1∧k=3)∨(x.2≠1∧k=0)):fpick p s x=fk p s x k:=by
 unfold fpick;rcases h with⟨h,rfl⟩|⟨h,rfl⟩
 ·rw[if_pos h];rfl
 ·rw[if_neg h];rfl
theorem frun_take {p:PK}{s:Rs}{l:List (Int×Int)}{i:Nat}(h:i<l.length):frun p s (l.take (i+1))=fpick p (frun p s (l.take i)) l[i]:=by
 unfold frun;rw[List.take_succ_eq_append_getElem h,List.foldl_append];rfl
theorem frun_wf {p:PK}:∀(l:List (Int×Int)) {s:Rs},(∀x∈l,(Lit.int .i64 x.1).wf=true)→Wf s.2→Wf (frun p s l).2
 |[],_,_,h=>h
 |x::l,s,hl,h=>by
  have hst:∀(s:Rs) (y:Int×Int),(Lit.int .i64 y.1).wf=true→Wf s.2→Wf (fstp p s y).2:=fun s y hy hs e he=>by
   rcases List.mem_append.1 (show e∈s.2++ [_] from he)with h1|h1
   ·exact hs e h1
   ·rw[List.mem_singleton.1 h1]
    have:(fact p s.1.1 s.1.2 y.1 y.2).1.2.1=y.1∨(fact p s.1.1 s.1.2 y.1 y.2).1.2.1=0:=by
     unfold fact
     repeat' (first|exact .inl rfl|exact .inr rfl|split)
    rcases this with h2|h2
    ·show(Lit.int .i64 (fact p s.1.1 s.1.2 y.1 y.2).1.2.1).wf=true
     rw[h2];exact hy
    ·show(Lit.int .i64 (fact p s.1.1 s.1.2 y.1 y.2).1.2.1).wf=true
     rw[h2];rfl
  have hx:=hl x (List.mem_cons_self ..);refine frun_wf l (fun y hy=>hl y (List.mem_cons_of_mem _ hy)) ?_;unfold fpick;split
  ·exact hst _ _ hx (hst _ _ hx (hst _ _ hx (hst _ _ hx h)))
  ·exact hst _ _ hx h
section
variable {gw ga gt gl:Nat}{c:Fp}{pk:PK}{T L B0:Nat}{w:World}{s:Rs}{n:Nat}{v:Value}{W W':World}
theorem FfW.doit (hG:ffLI gl c pk T L)(h:FfW gw ga gt gl c pk T L B0 w s n v W)(hn:n<1000)(t wn:Int):Calls Tryz.prog 11 #[.pointer (some ⟨gw,0,none⟩),.agg #[.int .i64 t,.int .i64 wn]] W fun e w'=>e= .returned (.agg #[.int .i64 (fact pk s.1.1 s.1.2 t wn).1.1,.int .i64 (fact pk s.1.1 s.1.2 t wn).1.2.1,.bool (fact pk s.1.1 s.1.2 t wn).1.2.2.1,.int .i64 (fact pk s.1.1 s.1.2 t wn).1.2.2.2])∧ffAt gw ga gt gl c pk T L (s.2.length+1) w' (fact pk s.1.1 s.1.2 t wn).2∧Mod [c.ga,c.ha,c.hs] W w':=by
 have h1:=do_wo hG h.k t wn (by have:=h.n;omega) (fun _=>rfl) (fun _ h=>by cases h);rw[show wact (ldF pk T) s.1 t wn=fact pk s.1.1 s.1.2 t wn from wact_ok h.k.at_.1.ok t wn]at h1;exact h1
theorem FfW.mono (h:FfW gw ga gt gl c pk T L B0 w s n v W){m:Nat}(hm:n≤m):FfW gw ga gt gl c pk T L B0 w s m v W:=⟨h.k,h.own,Nat.le_trans h.n hm,h.b,h.sz⟩
theorem FfW.next (hG:ffLI gl c pk T L)(h:FfW gw ga gt gl c pk T L B0 w s n v W)(hw:∀q∈ [c.ga,c.ha,c.hs],w.heap.size≤q){x:Int×Int}(hk:ffAt gw ga gt gl c pk T L (s.2.length+1) W' (fact pk s.1.1 s.1.2 x.1 x.2).2)(hm:Mod [c.ga,c.ha,c.hs] W W'):
 W'.ownsRow B0 44 4 v s.2.length (s.2.flatMap dE)∧B0≤W'.heap.size∧∀v' V,V.ownsRow B0 44 4 v' (s.2.length+1) (s.2.flatMap dE++dE (eOf (fact pk s.1.1 s.1.2 x.1 x.2).1))→Below B0 W' V→FfW gw ga gt gl c pk T L B0 w (fstp pk s x) (n+1) v' V:=by
 have hlt:=hG.lt;have hz:=h.sz;have hz2:=hm.size;have hbz:=h.b.size;refine⟨own_mod h.own hm (fun q hq=>by have:=hlt q hq;omega),by omega,fun v' V ho hb=>⟨?_,?_,?_,?_,hz.1,by have:=hb.size;omega,hz.2.2⟩⟩
 ·rw[fstp_len]
  exact hk.keep hG (hb.mono hz.1)
 ·rw[fstp_len]
  show V.ownsRow B0 _ 4 v' _ ((s.2++ [_]).flatMap dE);rw[List.flatMap_append];exact ho
 ·rw[fstp_len];have:=h.n;omega
 ·exact(h.b.trans (hm.below hbz hw)).trans (hb.mono hz.2.2)
end
theorem infoEv:(Tryz.prog.info? 44).map (fun i=>(i.zero,i.size,i.bytes))=some (some (.agg #[.int .i64 0,.int .i64 0,.bool false,.int .i64 0]),4,32):=by kernel_rfl
def FoJ (gw ga gt gl:Nat)(c:Fp)(pk:PK)(T L B0:Nat)(x0:Ar×List Sp)(C:Option Addr)(cap:Nat)(l:List (Int×Int))(w:World)(a:Act)(W:World):Prop:=
 a.tmps.size=73∧a.defers=[]∧a.tmps.getD 2 undef= .slice C l.length cap∧a.tmps.getD 7 undef= .pointer (some ⟨gw,0,none⟩)∧∃(i:Nat) (v:Value),a.tmps.getD 8 undef=v∧a.tmps.getD 9 undef= .int .i64 (i:Int)∧i≤l.length∧FfW gw ga gt gl c pk T L B0 w (frun pk (x0,[]) (l.take i)) (4*i) v W
def FoI (gw ga gt gl:Nat)(c:Fp)(pk:PK)(T L B0:Nat)(s:Rs)(x:Int×Int)(C:Option Addr)(cap n i:Nat)(w:World)(a:Act)(W:World):Prop:=
 a.tmps.size=73∧a.defers=[]∧a.tmps.getD 2 undef= .slice C n cap∧a.tmps.getD 7 undef= .pointer (some ⟨gw,0,none⟩)∧a.tmps.getD 9 undef= .int .i64 (i:Int)∧∃(k:Nat) (v:Value),a.tmps.getD 8 undef=v∧a.tmps.getD 10 undef= .int .i64 (k:Int)∧k≤3∧(k=0∨x.2=1)∧FfW gw ga gt gl c pk T L B0 w (fk pk s x k) (4*i+(k+1)) v W
section
variable(p t:List Int)(A B:Option Addr)(c d:Nat)(w:World)(hs:Sl w w.heap.size A (p.flatMap decI))(ht:Sl w w.heap.size B (t.flatMap decI))(n0 n1 n2 n3:Int)(h0:0≤n0∧n0≤255)(h1:0≤n1∧n1≤255)(h2:0≤n2∧n2≤255)(h3:0≤n3∧n3≤255)
include hs ht h0 h1 h2 h3
set_option maxRecDepth 100000 in
set_option maxHeartbeats 8000000 in
theorem fifo_walk (hck:chk p t=0)(h8:t.length≤8)(l:List (Int×Int))(C:Option Addr)(cap:Nat)(hl:l.length≤60)(hwf:∀x∈l,(Lit.int .i64 x.1).wf=true)(hsl:Sl w w.heap.size C (l.flatMap dPk)):
 Calls Tryz.prog 4 #[(.agg #[.slice A p.length c,.slice B t.length d]),(.agg #[.int .u8 n0,.int .u8 n1,.int .u8 n2,.int .u8 n3]),.slice C l.length cap] w fun e w'=>e= .returned (.bool true)∧Below w.heap.size w w':=by
 have HS:=Lib.hid hs;have HT:=Lib.hid ht;have HC:=Lib.hid hsl;have HWF:=Lib.hid hwf;have q0:0≤n3%4:=by omega
 have q1:n3%4<4:=by omega
 clear hs ht hsl hwf;go_enter Tryz.func4,Tryz.ntmps4;go_wp2_with fail;have hb1:=below_new w (.cells #[.slice A p.length c,.slice B t.length d] 24);have hx1:=blk_new w (.cells #[.slice A p.length c,.slice B t.length d] 24);generalize w.alloc (.cells #[.slice A p.length c,.slice B t.length d] 24)=W1 at*;have hb2:=below_new W1 (.cells #[.int .u8 n0,.int .u8 n1,.int .u8 n2,.int .u8 (1+n3%4)] 25);generalize W1.alloc (.cells #[.int .u8 n0,.int .u8 n1,.int .u8 n2,.int .u8 (1+n3%4)] 25)=W2 at*;have hbb:=hb1.trans (hb2.mono hb1.size);have HB2:=Lib.hid hbb;have HX2:=Lib.hid ((Mod.of_below (S:=[]) hb2).blk hx1 (by simp));have hK:2≤1+(1+n3%4)%13∧1+(1+n3%4)%13≤5:=by omega
 have hP:1≤1+n2/4%4∧1+n2/4%4≤32:=by omega
 have HMD:=Lib.hid (made_yes p t A B c d W2 ((Sl.below HS.out hbb).more hbb.size) ((Sl.below HT.out hbb).more hbb.size) n0 n1 n2 (1+n3%4) h0 h1 h2 (by omega) hck h8 (RF W2.heap.size (1+(1+n3%4)%13) (1+n2/4%4) t.length) (fun V hV=>wnew_flat W2.heap.size p t A B c d V hV.size hck ((Sl.below HS.out (hbb.trans (hV.mono hbb.size))).more (hbb.trans (hV.mono hbb.size)).size) ((Sl.below HT.out (hbb.trans (hV.mono hbb.size))).more (hbb.trans (hV.mono hbb.size)).size) (kgQ n0) (kgQ n1) (1+n2/4%4) (n2%4) (1+(1+n3%4)%13) hK hP));clear hb1 hx1 hb2;refine HMD.out.mono ?_;unfold MadeW;rintro e W3 ⟨gw,ga,gt,gl,V2,rfl,e2,e3,e4,e5,e6,hb3⟩;obtain⟨l1,l2,l3,l4⟩:=chk_len hck;have hM:mayK (1+(1+n3%4)%13) t.length (1+n2/4%4):=⟨by omega,by omega,fun _=>by omega,fun _=>by omega⟩;have hsz:=size_le hM hP.2;obtain⟨cc,_,hc1,hc2,hc3⟩:=woa_flat hM (by omega) e2 e3 e4 e5 e6;have hfar:=far_start hK hM (by omega);have HG:=Lib.hid hc2;have HK:=Lib.hid hc3;have HB3:=Lib.hid (hbb.trans (hb3.mono hbb.size));have HX3:=Lib.hid ((Mod.of_below (S:=[]) hb3).blk HX2.out (by simp));have HQ:=Lib.hid (fun q hq=>Nat.le_trans hbb.size (hc1 q hq));have HFAR:=Lib.hid hfar;clear e2 e3 e4 e5 e6 hb3 hc1 hc2 hc3 HMD hM hsz hfar HB2 HX2 hbb;generalize pkK (1+(1+n3%4)%13) (1+n2/4%4) 1=pk at*;generalize tak (1+(1+n3%4)%13) t.length (1+n2/4%4) (Ar.fresh 4096)=x0 at*;have i1:¬(60:Int)<(l.length:Int):=by omega
 have j1:decide ((60:Int)<(l.length:Int))=false:=decide_eq_false i1;have b0:=blk_cell HX3.out 0 (by simp);have b1:=blk_cell HX3.out 1 (by simp);simp only[List.getElem_toArray,List.getElem_cons_zero,List.getElem_cons_succ]at b0 b1;have hsm:=Rn.small_any p t A B c d W3 ((Sl.below HS.out HB3.out).more HB3.out.size) ((Sl.below HT.out HB3.out).more HB3.out.size) 8;rw[show(decide (chk p t=0)&&decide ((t.length:Int)≤8))=true by rw[decide_eq_true hck,decide_eq_true (by omega)];rfl]at hsm;have HSM:=Lib.hid hsm;clear hsm HX3;go_wp2_with fail;refine HSM.out.mono ?_;rintro e W4 ⟨rfl,hb4⟩;have HG4:=HG;have HK4:=Lib.hid (HK.out.same HG.out hb4);have HB4:=Lib.hid (HB3.out.trans (hb4.mono HB3.out.size));have hz34:=hb4.size;have hw3:=HB3.out.size;clear hb4 b0 b1 HSM HK HB3 HG4;go_wp2_with fail;refine wp_loop (FoJ gw ga gt gl cc pk t.length W3.heap.size W4.heap.size x0 C cap l w) (fun a' _=>l.length-(intOf (a'.tmps.getD 9 undef)).toNat) ?_ ?_
 ·exact⟨rfl,rfl,rfl,rfl,0,_,rfl,rfl,Nat.zero_le _,⟨HK4.out,World.ownsRow_nil _ _ _ _,Nat.le_refl _,HB4.out,hz34,Nat.le_refl _,Nat.le_trans hw3 hz34⟩⟩
 ·clear HK4 HB4
  rintro a' W ⟨hsz,hdf,s2,s7,i,v,s8,s9,hi,hF⟩;generalize W4.heap.size=B0 at*;obtain⟨u,rfl,hu⟩:=frame73 hsz hdf;rw[hu]at s2 s7 s8 s9;simp only[s2,s7,s8,s9];clear hsz hdf s2 s7 s8 s9 hu;have HF:=Lib.hid hF;clear hF;by_cases hlt:i<l.length
  ·have hfr:=frun_take (p:=pk) (s:=(x0,[])) hlt
   obtain⟨b,off,rfl,hbb,hcell⟩:=Sl_at (dec:=dPk) (k:=2) (fun _=>rfl) (by omega) HC.out (by omega);have e0:=hcell i hlt 0 (by omega);have e1:=hcell i hlt 1 (by omega);simp only[dPk,List.getElem?_cons_zero,List.getElem?_cons_succ,Nat.add_zero,←Nat.add_assoc]at e0 e1;have HFR:=Lib.hid hfr;have i2:(i:Int)<(l.length:Int):=by omega
   clear hcell hfr;generalize l[i]=q at*;generalize frun pk (x0,[]) (l.take i)=s at*;obtain⟨pt,pw⟩:=q;simp only at e0 e1;have HE:=Lib.hid (fun W' (h:Below w.heap.size w W')=>And.intro ((h.cell (p:=⟨b,off+i*2,none⟩) hbb).trans e0) ((h.cell (p:=⟨b,off+i*2+1,none⟩) hbb).trans e1));clear e0 e1;obtain⟨e0,e1⟩:=HE.out W HF.out.b;have HD:=Lib.hid (HF.out.doit HG.out (by omega) pt pw);have HNX:=Lib.hid (fun W' hk hm=>HF.out.next (W':=W') HG.out HQ.out (x:=(pt,pw)) hk hm);have hlen:=HF.out.n;clear HF;simp only at HNX;have hst:fk pk s (pt,pw) 0=fstp pk s (pt,pw):=rfl;have HST:=Lib.hid hst;clear hst;go_wp2_with fail;refine HD.out.mono ?_;rintro e W5 ⟨rfl,hk5,hm5⟩;have HN5:=Lib.hid (HNX.out W5 hk5 hm5);clear hk5 hm5 HNX HD e0 e1;generalize fstp pk s (pt,pw)=s1 at*;generalize fact pk s.1.1 s.1.2 pt pw=r at*;obtain⟨⟨ek,et,er,ec⟩,x2⟩:=r;simp only[eOf,dE]at HN5;go_wp2_with(at_builtin;refine wpList_append1 (.tmp 36) (.tmp 43) 35 44 _ 4 32 rfl rfl Tryz.underlying35 infoEv rfl (by decide) B0 _ _ _ _ _ _ _ _ HN5.out.1 rfl rfl ?cg1 rfl ?d11 ?d12 ?d13 ?d14 ?ck1;case' ck1=>(intro v2 W6 hown6 hb6 _;have HF6:=Lib.hid (HN5.out.2.2 v2 W6 hown6 hb6);clear hown6 hb6))
   case cg1=>first|rfl|simp
   case d11=>simp[Value.oneCell']
   case d12=>simp only[maxLen];omega
   case d13=>omega
   case d14=>have:=HN5.out.2.1;omega
   clear HN5;go_wp2_with fail;refine wp_loop (FoI gw ga gt gl cc pk t.length W3.heap.size B0 s (pt,pw) (some ⟨b,off,none⟩) cap l.length i w) (fun a' _=>3-(intOf (a'.tmps.getD 10 undef)).toNat) ?_ ?_
   ·exact⟨rfl,rfl,rfl,rfl,rfl,0,_,rfl,rfl,by omega,.inl rfl,by rw[HST.out];exact HF6.out⟩
   ·clear HF6
    rintro a' V ⟨hsz,hdf,s2,s7,s9,k,v3,s8,s10,hk,hk0,hF⟩;obtain⟨u,rfl,hu⟩:=frame73 hsz hdf;rw[hu]at s2 s7 s9 s8 s10;simp only[s2,s7,s9,s8,s10];clear hsz hdf s2 s7 s9 s8 s10 hu;have HF:=Lib.hid hF;clear hF;have HST2:=Lib.hid (show fk pk s (pt,pw) (k+1)=fstp pk (fk pk s (pt,pw) k) (pt,0) from rfl);have HPK:=Lib.hid (fun h=>fk_pick pk s (pt,pw) (k:=k) h);by_cases hgo:pw=1∧k<3
    ·obtain⟨rfl,hk3⟩:=hgo
     have i3:(k:Int)<3:=by omega
     obtain⟨e0,e1⟩:=HE.out V HF.out.b;have HD:=Lib.hid (HF.out.doit HG.out (by omega) pt 0);have HNX:=Lib.hid (fun W' hk hm=>HF.out.next (W':=W') HG.out HQ.out (x:=(pt,0)) hk hm);have hlen:=HF.out.n;clear HF HPK;simp only at HNX;generalize hsk:fk pk s (pt,1) (k+1)=sk1 at*;have HSK:=Lib.hid hsk;clear hsk;generalize fk pk s (pt,1) k=sk at*;go_wp2_with fail;refine HD.out.mono ?_;rintro e W7 ⟨rfl,hk7,hm7⟩;have HN7:=Lib.hid (HNX.out W7 hk7 hm7);clear hk7 hm7 HNX HD e0 e1;rw[←HST2.out]at HN7;generalize fact pk sk.1.1 sk.1.2 pt 0=r at*;obtain⟨⟨fk_,ft,fr,fc⟩,y2⟩:=r;simp only[eOf,dE]at HN7;go_wp2_with(at_builtin;refine wpList_append1 (.tmp 57) (.tmp 66) 35 44 _ 4 32 rfl rfl Tryz.underlying35 infoEv rfl (by decide) B0 _ _ _ _ _ _ _ _ HN7.out.1 rfl rfl ?cg2 rfl ?d21 ?d22 ?d23 ?d24 ?ck2;case' ck2=>(intro v2 W6 hown6 hb6 _;have HF6:=Lib.hid (HN7.out.2.2 v2 W6 hown6 hb6);clear hown6 hb6))
     case cg2=>first|rfl|simp
     case d21=>simp[Value.oneCell']
     case d22=>simp only[maxLen];omega
     case d23=>omega
     case d24=>have:=HN7.out.2.1;omega
     clear HN7;go_wp2_with fail;go_roundw
     case rel=>exact⟨rfl,rfl,rfl,rfl,rfl,k+1,_,rfl,by go_num,by omega,.inr rfl,by rw[HSK.out];rw[Nat.add_assoc]at HF6;exact HF6.out⟩
     case measure=>simp[intOf];omega
    ·have hc:(pw=1∧k=3)∨(pw≠1∧k=0):=by
      rcases hk0 with h|h
      ·by_cases h1:pw=1
       ·exact absurd ⟨h1,by omega⟩ hgo
       ·exact .inr ⟨h1,h⟩
      ·exact .inl ⟨h,by have:=fun h2=>hgo ⟨h,h2⟩;omega⟩
     have HPC:=Lib.hid (HPK.out hc);rcases hc with⟨rfl,rfl⟩|⟨hw1,rfl⟩
     ·have i3:¬(3:Int)<3:=by omega
      go_wp2_with fail;go_roundw
      case rel=>exact⟨rfl,rfl,rfl,rfl,i+1,_,rfl,by go_num,by omega,by rw[HFR.out,HPC.out];exact HF.out.mono (by omega)⟩
      case measure=>simp[intOf];omega
     ·have i4:=ibeq_no hw1
      obtain⟨e0,e1⟩:=HE.out V HF.out.b;go_wp2_with fail;go_roundw
      case rel=>exact⟨rfl,rfl,rfl,rfl,i+1,_,rfl,by go_num,by omega,by rw[HFR.out,HPC.out];exact HF.out.mono (by omega)⟩
      case measure=>simp[intOf];omega
  ·obtain rfl:i=l.length:=by omega
   have i2:¬(l.length:Int)<(l.length:Int):=by omega
   rw[List.take_length]at HF;have hwf:=frun_wf (p:=pk) l (s:=(x0,[])) HWF.out (fun e he=>absurd he List.not_mem_nil);have hsrt:=far_sorted (far_run l HFAR.out);obtain⟨V0,cv,rfl,_,_,hse⟩:=own_slice HF.out.own;have HFF:=Lib.hid (Ff.fifo_any (frun pk (x0,[]) l).2 V0 cv W (by have:=HF.out.n;omega) hwf hse hsrt);have HB:=Lib.hid HF.out.b;clear hwf hsrt hse HF;generalize(frun pk (x0,[]) l).2.length=en at*;go_wp2_with fail;refine HFF.out.mono ?_;rintro e W8 ⟨rfl,hb8⟩;have HB8:=Lib.hid (HB.out.trans (hb8.mono HB.out.size));clear hb8 HFF HB;go_wp2_with fail;refine(awake_any W8).mono ?_;rintro e W9 ⟨rfl,hb9⟩;have HB9:=Lib.hid (HB8.out.trans (hb9.mono HB8.out.size));clear hb9 HB8;go_wp2_with fail;go_ret;exact⟨rfl,HB9.out⟩
end
end Go.Proofs.YtfmiioddhpkdkaaGreat.Tq
namespace Go.Proofs.YtfmiioddhpkdkaaGreat.Tq
open Go.RowKit Go.Proofs.YtfmiioddhpkdkaaGreat.Ara Go.Proofs.YtfmiioddhpkdkaaGreat.Tp Go.Proofs.YtfmiioddhpkdkaaGreat.Lok Go.Proofs.YtfmiioddhpkdkaaGreat.Wo Go.Proofs.YtfmiioddhpkdkaaGreat.Co Go.Proofs.YtfmiioddhpkdkaaGreat.Cm Go.Proofs.YtfmiioddhpkdkaaGreat.Wf Go.Proofs.YtfmiioddhpkdkaaGreat.Fl
section
variable(p t:List Int)(A B:Option Addr)(c d:Nat)(w:World)(hs:Sl w w.heap.size A (p.flatMap decI))(ht:Sl w w.heap.size B (t.flatMap decI))(n0 n1 n2 n3:Int)(h0:0≤n0∧n0≤255)(h1:0≤n1∧n1≤255)(h2:0≤n2∧n2≤255)(h3:0≤n3∧n3≤255)
include hs ht h0 h1 h2 h3
omit h0 h1 h2 in
set_option maxRecDepth 100000 in
theorem fifo_no (h:¬(chk p t=0∧t.length≤8))(C:Option Addr)(nl cap:Nat)(hnl:nl≤maxLen):
 Calls Tryz.prog 4 #[(.agg #[.slice A p.length c,.slice B t.length d]),(.agg #[.int .u8 n0,.int .u8 n1,.int .u8 n2,.int .u8 n3]),.slice C nl cap] w fun e w'=>e= .returned (.bool true)∧Below w.heap.size w w':=by
 have HS:=Lib.hid hs;have HT:=Lib.hid ht;have q0:0≤n3%4:=by omega
 have q1:n3%4<4:=by omega
 have m1:(nl:Int)≤9223372036854775807:=by simp only[maxLen]at hnl;omega
 clear hs ht hnl;go_enter Tryz.func4,Tryz.ntmps4;go_wp2_with fail;have hb1:=below_new w (.cells #[.slice A p.length c,.slice B t.length d] 24);have hx1:=blk_new w (.cells #[.slice A p.length c,.slice B t.length d] 24);generalize w.alloc (.cells #[.slice A p.length c,.slice B t.length d] 24)=W1 at*;have hb2:=below_new W1 (.cells #[.int .u8 n0,.int .u8 n1,.int .u8 n2,.int .u8 (1+n3%4)] 25);generalize W1.alloc (.cells #[.int .u8 n0,.int .u8 n1,.int .u8 n2,.int .u8 (1+n3%4)] 25)=W2 at*;have hbb:=hb1.trans (hb2.mono hb1.size);have HX2:=Lib.hid ((Mod.of_below (S:=[]) hb2).blk hx1 (by simp));clear hb1 hx1 hb2;have HMD:=Lib.hid (made_no p t A B c d W2 ((Sl.below HS.out hbb).more hbb.size) ((Sl.below HT.out hbb).more hbb.size) n0 n1 n2 (1+n3%4) h);refine HMD.out.mono ?_;rintro e W3 ⟨rfl,hb3⟩;have HB3:=Lib.hid (hbb.trans (hb3.mono hbb.size));have HX3:=Lib.hid ((Mod.of_below (S:=[]) hb3).blk HX2.out (by simp));clear hb3 HMD HX2 hbb;have b0:=blk_cell HX3.out 0 (by simp);have b1:=blk_cell HX3.out 1 (by simp);simp only[List.getElem_toArray,List.getElem_cons_zero,List.getElem_cons_succ]at b0 b1;by_cases hlong:(60:Int)<(nl:Int)
 ·have j1:decide ((60:Int)<(nl:Int))=true:=decide_eq_true hlong
  clear h;go_wp2_with fail;refine(awake_any _).mono ?_;rintro e W9 ⟨rfl,hb9⟩;have HB9:=Lib.hid (HB3.out.trans (hb9.mono HB3.out.size));clear hb9;go_wp2_with fail;go_ret;exact⟨rfl,HB9.out⟩
 ·have j1:decide ((60:Int)<(nl:Int))=false:=decide_eq_false hlong
  have hsm:=Rn.small_any p t A B c d W3 ((Sl.below HS.out HB3.out).more HB3.out.size) ((Sl.below HT.out HB3.out).more HB3.out.size) 8
  rw[show(decide (chk p t=0)&&decide ((t.length:Int)≤8))=false by
   by_cases h1:chk p t=0
   ·rw[decide_eq_true h1,Bool.true_and];exact decide_eq_false (by omega)
   ·rw[decide_eq_false h1,Bool.false_and]]at hsm
  have HSM:=Lib.hid hsm;clear hsm h HX3;go_wp2_with fail;refine HSM.out.mono ?_;rintro e W4 ⟨rfl,hb4⟩;have HB4:=Lib.hid (HB3.out.trans (hb4.mono HB3.out.size));clear hb4;go_wp2_with fail;refine(awake_any _).mono ?_;rintro e W9 ⟨rfl,hb9⟩;have HB9:=Lib.hid (HB4.out.trans (hb9.mono HB4.out.size));clear hb9;go_wp2_with fail;go_ret;exact⟨rfl,HB9.out⟩
set_option maxRecDepth 100000 in
theorem fifo_long (hck:chk p t=0)(h8:t.length≤8)(C:Option Addr)(nl cap:Nat)(hnl:nl≤maxLen)(hlong:60<nl):
 Calls Tryz.prog 4 #[(.agg #[.slice A p.length c,.slice B t.length d]),(.agg #[.int .u8 n0,.int .u8 n1,.int .u8 n2,.int .u8 n3]),.slice C nl cap] w fun e w'=>e= .returned (.bool true)∧Below w.heap.size w w':=by
 have HS:=Lib.hid hs;have HT:=Lib.hid ht;have q0:0≤n3%4:=by omega
 have q1:n3%4<4:=by omega
 have m1:(nl:Int)≤9223372036854775807:=by simp only[maxLen]at hnl;omega
 have i1:(60:Int)<(nl:Int):=by omega
 have j1:decide ((60:Int)<(nl:Int))=true:=decide_eq_true i1;clear hs ht hnl hlong;go_enter Tryz.func4,Tryz.ntmps4;go_wp2_with fail;have hb1:=below_new w (.cells #[.slice A p.length c,.slice B t.length d] 24);have hx1:=blk_new w (.cells #[.slice A p.length c,.slice B t.length d] 24);generalize w.alloc (.cells #[.slice A p.length c,.slice B t.length d] 24)=W1 at*;have hb2:=below_new W1 (.cells #[.int .u8 n0,.int .u8 n1,.int .u8 n2,.int .u8 (1+n3%4)] 25);generalize W1.alloc (.cells #[.int .u8 n0,.int .u8 n1,.int .u8 n2,.int .u8 (1+n3%4)] 25)=W2 at*;have hbb:=hb1.trans (hb2.mono hb1.size);have HX2:=Lib.hid ((Mod.of_below (S:=[]) hb2).blk hx1 (by simp));clear hb1 hx1 hb2;have hK:2≤1+(1+n3%4)%13∧1+(1+n3%4)%13≤5:=by omega
 have hP:1≤1+n2/4%4∧1+n2/4%4≤32:=by omega
 have HMD:=Lib.hid (made_yes p t A B c d W2 ((Sl.below HS.out hbb).more hbb.size) ((Sl.below HT.out hbb).more hbb.size) n0 n1 n2 (1+n3%4) h0 h1 h2 (by omega) hck h8 (RF W2.heap.size (1+(1+n3%4)%13) (1+n2/4%4) t.length) (fun V hV=>wnew_flat W2.heap.size p t A B c d V hV.size hck ((Sl.below HS.out (hbb.trans (hV.mono hbb.size))).more (hbb.trans (hV.mono hbb.size)).size) ((Sl.below HT.out (hbb.trans (hV.mono hbb.size))).more (hbb.trans (hV.mono hbb.size)).size) (kgQ n0) (kgQ n1) (1+n2/4%4) (n2%4) (1+(1+n3%4)%13) hK hP));refine HMD.out.mono ?_;unfold MadeW;rintro e W3 ⟨gw,ga,gt,gl,V2,rfl,e2,e3,e4,e5,e6,hb3⟩;have HB3:=Lib.hid (hbb.trans (hb3.mono hbb.size));have HX3:=Lib.hid ((Mod.of_below (S:=[]) hb3).blk HX2.out (by simp));clear e2 e3 e4 e5 e6 hb3 HMD HX2 hbb;have b0:=blk_cell HX3.out 0 (by simp);have b1:=blk_cell HX3.out 1 (by simp);simp only[List.getElem_toArray,List.getElem_cons_zero,List.getElem_cons_succ]at b0 b1;go_wp2_with fail;refine(awake_any _).mono ?_;rintro e W9 ⟨rfl,hb9⟩;have HB9:=Lib.hid (HB3.out.trans (hb9.mono HB3.out.size));clear hb9;go_wp2_with fail;go_ret;exact⟨rfl,HB9.out⟩
end
theorem list4 {α:Type}{l:List α}(h:l.length=4):∃a b c d,l=[a,b,c,d]:=by
 rcases l with _|⟨a,_|⟨b,_|⟨c,_|⟨d,_|⟨e,r⟩⟩⟩⟩⟩
 ·cases h
 ·cases h
 ·cases h
 ·cases h
 ·exact⟨a,b,c,d,rfl⟩
 ·simp at h
theorem reads_pk {H:Type}{enc:TypeId×Value→H}:Reads enc Tryz.prog 47 dPk (fun e=>isI64 e.1∧isI64 e.2):=
 reads_s2 (d0:=Value.int .i64) (d1:=Value.int .i64) Tryz.underlying47 (by kernel_rfl) (by kernel_rfl) (reads_i64 Tryz.underlying3) (reads_i64 Tryz.underlying3)
theorem fifo_law (w:World)(A B:Option Addr)(c d:Nat)(p t:List Int)(_hc:p.length≤c)(_hm:c≤maxLen)(_hd:t.length≤d)(_hn:d≤maxLen)(hs:Sl w w.heap.size A (p.flatMap decI))(ht:Sl w w.heap.size B (t.flatMap decI))(n:List Int)(hn:n.length=4∧∀a∈n,isU8 a)
 (C:Option Addr) (cap:Nat) (l:List (Int×Int)) (hlc:l.length≤cap) (hcm:cap≤maxLen) (w0:∀e∈l,isI64 e.1∧isI64 e.2) (hl:Sl w w.heap.size C (l.flatMap dPk)):
 Calls Tryz.prog 4 #[(.agg #[.slice A p.length c,.slice B t.length d]),.agg (n.flatMap fun n=> [.int .u8 n]).toArray,.slice C l.length cap] w fun e w'=>e= .returned (.bool true)∧Below w.heap.size w w':=by
 obtain⟨n0,n1,n2,n3,rfl⟩:=list4 hn.1;have u0:=hn.2 n0 (by simp);have u1:=hn.2 n1 (by simp);have u2:=hn.2 n2 (by simp);have u3:=hn.2 n3 (by simp);by_cases h:chk p t=0∧t.length≤8
 ·by_cases hll:l.length≤60
  ·exact fifo_walk p t A B c d w hs ht n0 n1 n2 n3 u0 u1 u2 u3 h.1 h.2 l C cap hll (fun x hx=>WalkArith.wf_i64 (w0 x hx).1) hl
  ·exact fifo_long p t A B c d w hs ht n0 n1 n2 n3 u0 u1 u2 u3 h.1 h.2 C l.length cap (Nat.le_trans hlc hcm) (by omega)
 ·exact fifo_no p t A B c d w hs ht n0 n1 n2 n3 u3 h C l.length cap (Nat.le_trans hlc hcm)
end Go.Proofs.YtfmiioddhpkdkaaGreat.Tq
namespace Go.Proofs.YtfmiioddhpkdkaaGreat.Tp
open Go.RowKit Go.ChangeShapes Go.WideShapes Go.Deep Go.Proofs.YtfmiioddhpkdkaaGreat.Li Go.Proofs.YtfmiioddhpkdkaaGreat.De Go.Proofs.YtfmiioddhpkdkaaGreat.Ara Go.Proofs.YtfmiioddhpkdkaaGreat.Ara
theorem arg_topo {H:Type}{enc:TypeId×Value→H}{w:World}{base:Nat}{spare:Nat→Bool}{held:Bool}{v:Value}{D:DataW H}{pl:List MemPlace}(hv:∃cs,v= .agg cs)(h:DataW.Trod enc Tryz.prog w base spare held 24 v D pl):
 ∃(A B:Option Addr) (c d:Nat) (p t:List Int),v= .agg #[.slice A p.length c,.slice B t.length d]∧p.length≤c∧c≤maxLen∧t.length≤d∧d≤maxLen∧Sl w w.heap.size A (p.flatMap decI)∧Sl w w.heap.size B (t.flatMap decI):=by
 obtain⟨cs,rfl⟩:=hv;obtain⟨fuel,hf⟩:=h;obtain⟨hl,hfl⟩:=fields_of Tryz.underlying24 (by kernel_rfl) (by kernel_rfl) hf;have hl2:cs.toList.length=2:=hl;obtain⟨x,y,e⟩:=list2 hl2;have e':(Value.agg cs).cells.toList=[x,y]:=e;rw[e']at hfl;obtain⟨_,_,g0⟩:=hfl 0 _ x rfl rfl;obtain⟨_,_,g1⟩:=hfl 1 _ y rfl rfl;obtain⟨A,n,c,p,h1,rfl,h2,h3,_,h4⟩:=slice_of (k:=1) Tryz.underlying22 (by kernel_rfl) (fun _=>rfl) (reads_i64 Tryz.underlying3) g0;obtain⟨B,m,d,t,k1,rfl,k2,k3,_,k4⟩:=slice_of (k:=1) Tryz.underlying22 (by kernel_rfl) (fun _=>rfl) (reads_i64 Tryz.underlying3) g1;injection h1 with h1;injection k1 with k1;subst h1 k1;refine⟨A,B,c,d,p,t,?_,h2,h3,k2,k3,h4,k4⟩;congr 1;apply Array.ext';rw[e]
end Go.Proofs.YtfmiioddhpkdkaaGreat.Tp
