/- Merged texts: Lo3, Wn1, Tq1, Lo4, WaP, Wn2, Tq2, WoL, QuE, Wn3. -/
import Derived.Test.YtfmiioddhpkdkaaGreatWh28
import Derived.Laws.ResultCell
set_option linter.unusedVariables false
set_option linter.unusedSimpArgs false
namespace Go.Proofs.YtfmiioddhpkdkaaGreat.Wo
open Go.RowKit Go.Proofs.YtfmiioddhpkdkaaGreat.Ara Go.Proofs.YtfmiioddhpkdkaaGreat.Tp Go.Proofs.YtfmiioddhpkdkaaGreat.Lok Go.Proofs.YtfmiioddhpkdkaaGreat.Fl Go.Proofs.YtfmiioddhpkdkaaGreat.Lk Go.Proofs.YtfmiioddhpkdkaaGreat.Co Go.Proofs.YtfmiioddhpkdkaaGreat.Cm
def NewL (W:World)(gl:Nat)(kind:Int)(T:Nat):Prop:=W.heap[gl]? =some (.cells #[.int .i64 kind,.int .i64 (T:Int),.nilIface] 115 (0,0))
structure MkB (w:World)(x y:Value)(k0 k1 k2 k3:Int)(W:World):Prop where
 b:Below w.heap.size w W
 x0:W.heap[w.heap.size]? =some (.cells #[x,y] 24 (0,0))
 x1:W.heap[w.heap.size+1]? =some (.cells #[.int .i64 k0,.int .i64 k1,.int .i64 k2,.int .i64 k3] 56 (0,0))
theorem MkB.made (w:World)(x y:Value)(k0 k1 k2 k3:Int):MkB w x y k0 k1 k2 k3 ((w.alloc (.cells #[x,y] 24)).alloc (.cells #[.int .i64 k0,.int .i64 k1,.int .i64 k2,.int .i64 k3] 56)):=by
 have hz:(w.alloc (.cells #[x,y] 24)).heap.size=w.heap.size+1:=by simp
 have h2:=blk_new (w.alloc (.cells #[x,y] 24)) (.cells #[.int .i64 k0,.int .i64 k1,.int .i64 k2,.int .i64 k3] 56);rw[hz]at h2;exact⟨(below_new _ _).alloc (by simp) _,(heap_alloc_old _ _ (by simp)).trans (blk_new _ _),h2⟩
theorem MkB.mod {w W V:World}{x y:Value}{k0 k1 k2 k3:Int}(h:MkB w x y k0 k1 k2 k3 W){S:List Nat}(hm:Mod S W V)(hS:∀q∈S,q<w.heap.size):(V.heap[w.heap.size]? =some (.cells #[x,y] 24 (0,0)))∧V.heap[w.heap.size+1]? =some (.cells #[.int .i64 k0,.int .i64 k1,.int .i64 k2,.int .i64 k3] 56 (0,0)):=
 ⟨hm.blk h.x0 (fun e=>by have:=hS _ e;omega),hm.blk h.x1 (fun e=>by have:=hS _ e;omega)⟩
theorem hD3x {gl ga ha:Nat}{a b:World}(h:Mod [ga,ha] a b):Mod [gl,ga,ha] a b:=⟨h.os,h.tape,h.output,h.size,fun k hk hn=>h.block k hk (fun e=>hn (List.mem_cons_of_mem _ e))⟩
section
variable(p t:List Int)(A B:Option Addr)(c d:Nat)(w:World)(gl ga ha:Nat)(σ:Ar)(kg kl par bud:Int)
set_option maxRecDepth 100000 in
theorem make_flat (kind:Int)(T:Nat)(hk:1≤kind∧kind≤5)(hL:NewL w gl kind T)(hA:ArAt w ga ha σ)(hlt:ha<w.heap.size)(hne:gl≠ga∧gl≠ha)(O:mayK kind T par)(hr:σ.t+sizeK kind T par≤σ.ws.length)(hw:σ.ws.length≤4096)(ho:σ.ops≤1000):
 Calls Tryz.prog 58 #[.pointer (some ⟨gl,0,none⟩),.pointer (some ⟨ga,0,none⟩),(.agg #[.slice A p.length c,.slice B t.length d]),(.agg #[.int .i64 kg,.int .i64 kl,.int .i64 par,.int .i64 bud])] w fun e w'=>e= .returned (.int .i64 0)∧∃gf gk gh,LkB w' gl kind T 155 (aloV gf)∧FLAt w' gf gk ga ha gh (pkK kind par (σ.t+1)) (tak kind T par σ).1 (tak kind T par σ).2∧(w.heap.size≤gf∧w.heap.size≤gk∧w.heap.size≤gh)∧Mod [gl,ga,ha] w w':=by
 have hlg:=hA.lt;have hgl:gl<w.heap.size:=lt_of_blk hL;have e6:=ibeq_no (show kind≠6 by omega);have e7:=ibeq_no (show kind≠7 by omega);have e8:=ibeq_no (show kind≠8 by omega);have e9:=ibeq_no (show kind≠9 by omega);have e10:=ibeq_no (show kind≠10 by omega);have e11:=ibeq_no (show kind≠11 by omega);have e12:=ibeq_no (show kind≠12 by omega);have e13:=ibeq_no (show kind≠13 by omega);have HM0:=Lib.hid (MkB.made w (.slice A p.length c) (.slice B t.length d) kg kl par bud);generalize hW1:(w.alloc (.cells #[.slice A p.length c,.slice B t.length d] 24)).alloc (.cells #[.int .i64 kg,.int .i64 kl,.int .i64 par,.int .i64 bud] 56)=W1 at*;have HL1:=Lib.hid ((Mod.of_below (S:=[]) HM0.out.b).blk hL (by simp));have hz1:=HM0.out.b.size;have hA1:=hA.mod (S:=[]) (Mod.of_below HM0.out.b) (by simp) (by simp);have HNF:=Lib.hid (new_flat kind T par O ga ha σ W1.drew (show ArAt W1.drew ga ha σ from hA1) (show ha<W1.drew.heap.size by show ha<W1.heap.size;omega) hr hw (by omega));have i0:=blk_cell HL1.out 0 (by simp);simp only[List.getElem_toArray,List.getElem_cons_zero,List.getElem_cons_succ]at i0;clear hL hA O hr hA1 hk;go_enter Tryz.func58,Tryz.ntmps58;go_wp2_with fail;clear hW1;go_upto_region 4 with fail;have HL2:=Lib.hid (show NewL W1.drew gl kind T from HL1.out);have HM2:=Lib.hid (show W1.drew.heap[w.heap.size+1]? =some (.cells #[.int .i64 kg,.int .i64 kl,.int .i64 par,.int .i64 bud] 56 (0,0)) from HM0.out.x1);have HB2:=Lib.hid (show Below w.heap.size w W1.drew from Below.drew HM0.out.b);have hz2:w.heap.size+1<W1.drew.heap.size:=lt_of_blk HM2.out;clear HL1 HM0 i0;have F2:=And.intro (blk_cell HL2.out 0 (by simp)) (And.intro (blk_cell HL2.out 1 (by simp)) (blk_cell HM2.out 2 (by simp)));simp only[List.getElem_toArray,List.getElem_cons_zero,List.getElem_cons_succ]at F2;refine wp_region_held_drew (S:=fun V=>V.cell? ⟨gl,0,none⟩=some (.int .i64 kind)∧V.cell? ⟨gl,1,none⟩=some (.int .i64 (T:Int))∧V.cell? ⟨w.heap.size+1,2,none⟩=some (.int .i64 par)) (by kernel_rfl) F2 (fun hHeld=> ?_);generalize W1.drew=W2 at*;refine take_to 0 (some 18) (v:= ?_) rfl rfl (by kernel_rfl) (by kernel_rfl) (by kernel_rfl) (fun _ _ _ h=>h) (Or.inl ⟨by rfl,?_⟩) (by first|trivial|assumption) ?_;rotate_left;focus(intro w hSw;(try dsimp only at hSw);go_simp;(try with_reducible rfl))
 simp only[Act.put,List.setIfInBounds_toArray,List.set_cons_zero,List.set_cons_succ];refine take_to 1 (some 19) (v:= ?_) rfl rfl (by kernel_rfl) (by kernel_rfl) (by kernel_rfl) (fun _ _ _ h=>h) (Or.inl ⟨by rfl,?_⟩) (by first|trivial|assumption) ?_;rotate_left;focus(intro w hSw;(try dsimp only at hSw);go_simp;(try with_reducible rfl))
 simp only[Act.put,List.setIfInBounds_toArray,List.set_cons_zero,List.set_cons_succ];refine take_to 2 (some 20) (v:= ?_) rfl rfl (by kernel_rfl) (by kernel_rfl) (by kernel_rfl) (fun _ _ _ h=>h) (Or.inl ⟨by rfl,?_⟩) (by first|trivial|assumption) ?_;rotate_left;focus(intro w hSw;(try dsimp only at hSw);go_simp;(try with_reducible rfl))
 simp only[Act.put,List.setIfInBounds_toArray,List.set_cons_zero,List.set_cons_succ];refine take_to 3 (some 21) (v:= ?_) rfl rfl (by kernel_rfl) (by kernel_rfl) (by kernel_rfl) (fun _ _ _ h=>h) (Or.inl ⟨by rfl,?_⟩) (by first|trivial|assumption) ?_;rotate_left;focus(intro w hSw;(try dsimp only at hSw);go_simp;(try with_reducible rfl))
 simp only[Act.put,List.setIfInBounds_toArray,List.set_cons_zero,List.set_cons_succ];refine take_to 4 (some 22) (v:= ?_) rfl rfl (by kernel_rfl) (by kernel_rfl) (by kernel_rfl) (fun _ _ _ h=>h) (Or.inl ⟨by rfl,?_⟩) (by first|trivial|assumption) ?_;rotate_left;focus(intro w hSw;(try dsimp only at hSw);go_simp;(try with_reducible rfl))
 simp only[Act.put,List.setIfInBounds_toArray,List.set_cons_zero,List.set_cons_succ];refine take_to 5 (some 23) (v:= ?_) rfl rfl (by kernel_rfl) (by kernel_rfl) (by kernel_rfl) (fun _ _ _ h=>h) (Or.inl ⟨by rfl,?_⟩) (by first|trivial|assumption) ?_;rotate_left;focus(intro w hSw;(try dsimp only at hSw);go_simp;(try with_reducible rfl))
 simp only[Act.put,List.setIfInBounds_toArray,List.set_cons_zero,List.set_cons_succ];refine take_to 6 (some 24) (v:= ?_) rfl rfl (by kernel_rfl) (by kernel_rfl) (by kernel_rfl) (fun _ _ _ h=>h) (Or.inl ⟨by rfl,?_⟩) (by first|trivial|assumption) ?_;rotate_left;focus(intro w hSw;(try dsimp only at hSw);go_simp;(try with_reducible rfl))
 simp only[Act.put,List.setIfInBounds_toArray,List.set_cons_zero,List.set_cons_succ];refine take_to 7 (some 25) (v:= ?_) rfl rfl (by kernel_rfl) (by kernel_rfl) (by kernel_rfl) (fun _ _ _ h=>h) (Or.inl ⟨by rfl,?_⟩) (by first|trivial|assumption) ?_;rotate_left;focus(intro w hSw;(try dsimp only at hSw);go_simp;(try with_reducible rfl))
 simp only[Act.put,List.setIfInBounds_toArray,List.set_cons_zero,List.set_cons_succ];refine take_to 8 (some 26) (v:= ?_) rfl rfl (by kernel_rfl) (by kernel_rfl) (by kernel_rfl) (fun _ _ _ h=>h) (Or.inl ⟨by rfl,?_⟩) (by first|trivial|assumption) ?_;rotate_left;focus(intro w hSw;(try dsimp only at hSw);go_simp;(try with_reducible rfl))
 simp only[Act.put,List.setIfInBounds_toArray,List.set_cons_zero,List.set_cons_succ];refine take_to 9 (some 27) (v:= ?_) rfl rfl (by kernel_rfl) (by kernel_rfl) (by kernel_rfl) (fun _ _ _ h=>h) (Or.inl ⟨by rfl,?_⟩) (by first|trivial|assumption) ?_;rotate_left;focus(intro w hSw;(try dsimp only at hSw);go_simp;(try with_reducible rfl))
 simp only[Act.put,List.setIfInBounds_toArray,List.set_cons_zero,List.set_cons_succ];refine take_to 10 (some 28) (v:= ?_) rfl rfl (by kernel_rfl) (by kernel_rfl) (by kernel_rfl) (fun _ _ _ h=>h) (Or.inl ⟨by rfl,?_⟩) (by first|trivial|assumption) ?_;rotate_left;focus(intro w hSw;(try dsimp only at hSw);go_simp;(try with_reducible rfl))
 simp only[Act.put,List.setIfInBounds_toArray,List.set_cons_zero,List.set_cons_succ];refine wpAnyH_ready (rs:=[11]) (by kernel_rfl) (by simp) ?_;refine AllReadyH.cons rfl (fun K hK=> ?_) AllReadyH.nil;go_simp;refine HNF.out.mono ?_;rintro e W3 ⟨gf,gk,gh,rfl,hf3,hx3,hm3⟩;have HL3:=Lib.hid (show NewL W3 gl kind T from hm3.blk HL2.out (by simp;omega));have HM3:=Lib.hid (hm3.blk HM2.out (by simp;omega));have F3:=And.intro (blk_cell HL3.out 0 (by simp)) (And.intro (blk_cell HL3.out 1 (by simp)) (blk_cell HM3.out 2 (by simp)));simp only[List.getElem_toArray,List.getElem_cons_zero,List.getElem_cons_succ]at F3;have hb3:=hf3.blocks;have HF3:=Lib.hid hf3;have HD3:=Lib.hid hm3;clear hf3 hm3 HNF F2;go_simp;refine hK.out _ _ F3 (fun hHeld=> ?_);refine take_to 12 (some 17) (v:= ?_) rfl rfl (by kernel_rfl) (by kernel_rfl) (by kernel_rfl) (fun _ _ _ h=>h) (Or.inl ⟨by rfl,?_⟩) (by first|trivial|assumption) ?_;rotate_left;focus(intro w hSw;(try dsimp only at hSw);go_simp;(try with_reducible rfl))
 simp only[Act.put,List.setIfInBounds_toArray,List.set_cons_zero,List.set_cons_succ];refine take_to 13 (some 30) (v:= ?_) rfl rfl (by kernel_rfl) (by kernel_rfl) (by kernel_rfl) (fun _ _ _ h=>h) (Or.inl ⟨by rfl,?_⟩) (by first|trivial|assumption) ?_;rotate_left;focus(intro w hSw;(try dsimp only at hSw);go_simp;(try with_reducible rfl))
 simp only[Act.put,List.setIfInBounds_toArray,List.set_cons_zero,List.set_cons_succ];refine take_to 14 (some 31) (v:= ?_) rfl rfl (by kernel_rfl) (by kernel_rfl) (by kernel_rfl) (fun _ _ _ h=>h) (Or.inl ⟨by rfl,?_⟩) (by first|trivial|assumption) ?_;rotate_left;focus(intro w hSw;(try dsimp only at hSw);go_simp;(try with_reducible rfl))
 simp only[Act.put,List.setIfInBounds_toArray,List.set_cons_zero,List.set_cons_succ];refine take_to 15 (some 32) (v:= ?_) rfl rfl (by kernel_rfl) (by kernel_rfl) (by kernel_rfl) (fun _ _ _ h=>h) (Or.inl ⟨by rfl,?_⟩) (by first|trivial|assumption) ?_;rotate_left;focus(intro w hSw;(try dsimp only at hSw);go_simp;(try with_reducible rfl))
 simp only[Act.put,List.setIfInBounds_toArray,List.set_cons_zero,List.set_cons_succ];refine take_to 16 (some 9) (v:= ?_) rfl rfl (by kernel_rfl) (by kernel_rfl) (by kernel_rfl) (fun _ _ _ h=>h) (Or.inl ⟨by rfl,?_⟩) (by first|trivial|assumption) ?_;rotate_left;focus(intro w hSw;(try dsimp only at hSw);go_simp;(try with_reducible rfl))
 simp only[Act.put,List.setIfInBounds_toArray,List.set_cons_zero,List.set_cons_succ];refine take_to 17 (some 8) (v:= ?_) rfl rfl (by kernel_rfl) (by kernel_rfl) (by kernel_rfl) (fun _ _ _ h=>h) (Or.inl ⟨by rfl,?_⟩) (by first|trivial|assumption) ?_;rotate_left;focus(intro w hSw;(try dsimp only at hSw);go_simp;(try with_reducible rfl))
 simp only[Act.put,List.setIfInBounds_toArray,List.set_cons_zero,List.set_cons_succ];refine wpAnyH_done (by kernel_rfl) ?_ _;have c2:=blk_cell HL3.out 2 (by simp);simp only[List.getElem_toArray,List.getElem_cons_zero,List.getElem_cons_succ]at c2;have f2:=blk_free HL3.out 2;have hs4:=blk_set HL3.out 2 (.iface 155 (aloV gf));simp only[Array.set!_eq_setIfInBounds,List.setIfInBounds_toArray,List.set_cons_zero,List.set_cons_succ]at hs4;have HS4:=Lib.hid hs4;have hm4:Mod [gl] W3 (W3.setCell ⟨gl,2,none⟩ (.iface 155 (aloV gf))):=(Mod.refl _ _).setCell (by simp) _;have HF4:=Lib.hid (HF3.out.mod hm4 (by simp;omega) (by simp;omega) (by simp;omega) (by simp;omega) (by simp;omega));have HM4:=Lib.hid (show Mod [gl,ga,ha] w (W3.setCell ⟨gl,2,none⟩ (.iface 155 (aloV gf))) from(((Mod.of_below HB2.out).trans (hD3x HD3.out)).setCell (by simp) _));clear hs4 hm4 HF3 HD3 HL3 HM3 F3 HL2 HM2;unfold aloV at HS4 HF4 HM4;go_wp2_with fail;go_ret;exact⟨rfl,gf,gk,gh,HS4.out,HF4.out,⟨by omega,by omega,by omega⟩,HM4.out⟩
end
end Go.Proofs.YtfmiioddhpkdkaaGreat.Wo
namespace Go.Proofs.YtfmiioddhpkdkaaGreat.Wo
open Go.RowKit Go.Proofs.YtfmiioddhpkdkaaGreat.Ara Go.Proofs.YtfmiioddhpkdkaaGreat.Tp Go.Proofs.YtfmiioddhpkdkaaGreat.Lok Go.Proofs.YtfmiioddhpkdkaaGreat.Lk
set_option maxRecDepth 100000 in
theorem wnew_gen (p t:List Int)(A B:Option Addr)(c d:Nat)(w:World)(hck:chk p t=0)(hs:Sl w w.heap.size A (p.flatMap decI))(ht:Sl w w.heap.size B (t.flatMap decI))(kind kg kl par bud:Int)(R:Nat→World→Prop)
 (HL:∀W,Below w.heap.size w W→ArAt W (w.heap.size+1+1+1) (w.heap.size+1+1) (Ar.fresh 4096)→w.heap.size+1+1+1<W.heap.size→Calls Tryz.prog 38 #[.pointer (some ⟨w.heap.size+1+1+1,0,none⟩),(.agg #[.slice A p.length c,.slice B t.length d]),(.agg #[.int .i64 kind,.int .i64 kg,.int .i64 kl,.int .i64 par,.int .i64 bud])] W fun e w'=>∃gl,e= .returned (.tuple #[.pointer (some ⟨gl,0,none⟩),.int .i64 0])∧R gl w'∧Mod [w.heap.size+1+1+1,w.heap.size+1+1] W w'):
 Calls Tryz.prog 18 #[(.agg #[.slice A p.length c,.slice B t.length d]),(.agg #[.int .i64 kind,.int .i64 kg,.int .i64 kl,.int .i64 par,.int .i64 bud])] w fun e w'=>∃gw gt gl W2,e= .returned (.tuple #[.pointer (some ⟨gw,0,none⟩),.int .i64 0])∧WoB w' gw (w.heap.size+1+1+1) gt gl (shK kind)∧R gl W2∧Below W2.heap.size W2 w'∧W2.heap.size≤gw∧gw<w'.heap.size∧Below w.heap.size w w':=by
 obtain⟨l1,l2,l3,l4⟩:=chk_len hck;have HS:=Lib.hid hs;have HT:=Lib.hid ht;have HLN:=Lib.hid HL;clear hs ht HL;go_enter Tryz.func18,Tryz.ntmps18;go_wp2_with fail;have hb1:=below_new w (.cells #[.slice A p.length c,.slice B t.length d] 24);have hx1:=blk_new w (.cells #[.slice A p.length c,.slice B t.length d] 24);have hz1:(w.alloc (.cells #[.slice A p.length c,.slice B t.length d] 24)).heap.size=w.heap.size+1:=by simp
 generalize w.alloc (.cells #[.slice A p.length c,.slice B t.length d] 24)=W1 at*;have hb2:=below_new W1 (.cells #[.int .i64 kind,.int .i64 kg,.int .i64 kl,.int .i64 par,.int .i64 bud] 58);have hx2:=blk_new W1 (.cells #[.int .i64 kind,.int .i64 kg,.int .i64 kl,.int .i64 par,.int .i64 bud] 58);have hz2:(W1.alloc (.cells #[.int .i64 kind,.int .i64 kg,.int .i64 kl,.int .i64 par,.int .i64 bud] 58)).heap.size=w.heap.size+1+1:=by simp[hz1]
 generalize W1.alloc (.cells #[.int .i64 kind,.int .i64 kg,.int .i64 kl,.int .i64 par,.int .i64 bud] 58)=W2 at*;have HB2:=Lib.hid (hb1.trans (hb2.mono hb1.size));have HX1:=Lib.hid ((Mod.of_below (S:=[]) hb2).blk hx1 (by simp));rw[hz1]at hx2;have HX2:=Lib.hid hx2;clear hb1 hx1 hb2 hx2;refine(new_in 4096 W2).mono ?_;rintro e W3 ⟨rfl,ha3,hz3,hb3⟩;rw[hz2]at ha3 hz3;have HB3:=Lib.hid (HB2.out.trans (hb3.mono HB2.out.size));have HY1:=Lib.hid ((Mod.of_below (S:=[]) hb3).blk HX1.out (by simp));have HY2:=Lib.hid ((Mod.of_below (S:=[]) hb3).blk HX2.out (by simp));have HL3:=Lib.hid (HLN.out W3 HB3.out ha3 (by omega));rw[hz2];clear hb3 ha3 HX1 HX2 HB2 HLN hz2 hz1;have b0:=blk_cell HY1.out 0 (by simp);have b1:=blk_cell HY1.out 1 (by simp);have s0:=blk_cell HY2.out 0 (by simp);have s1:=blk_cell HY2.out 1 (by simp);have s2:=blk_cell HY2.out 2 (by simp);have s3:=blk_cell HY2.out 3 (by simp);have s4:=blk_cell HY2.out 4 (by simp);simp only[List.getElem_toArray,List.getElem_cons_zero,List.getElem_cons_succ]at b0 b1 s0 s1 s2 s3 s4;go_wp2_with fail;refine HL3.out.mono ?_;rintro e W4 ⟨gl,rfl,hr4,hm4⟩;have hz4:=hm4.size;have HM4:=Lib.hid hm4;have HR4:=Lib.hid hr4;have HZ1:=Lib.hid (hm4.blk HY1.out (by simp<;>omega));have HZ2:=Lib.hid (hm4.blk HY2.out (by simp<;>omega));have HB4:=Lib.hid (show Below w.heap.size w W4 from HB3.out.trans (hm4.below (by omega) (by simp<;>omega)));clear b0 b1 s0 s1 s2 s3 s4 hm4 hr4 HY1 HY2 HL3 HB3 HM4;have b0:=blk_cell HZ1.out 0 (by simp);have b1:=blk_cell HZ1.out 1 (by simp);simp only[List.getElem_toArray,List.getElem_cons_zero,List.getElem_cons_succ]at b0 b1;have HNP:=Lib.hid (Pa.pnew_ok p t A B c d W4 hck ((Sl.below HS.out HB4.out).more HB4.out.size) ((Sl.below HT.out HB4.out).more HB4.out.size));go_wp2_with fail;refine HNP.out.mono ?_;rintro e W5 ⟨gt,pb,tb,cA,cB,rfl,htb,rpb,rtb,⟨o1,o2,o3,o4⟩,b5⟩;have hz5:=b5.size;have HB5:=Lib.hid b5;have HX5:=Lib.hid ((Mod.of_below (S:=[]) b5).blk HZ2.out (by simp));clear b5 htb rpb rtb b0 b1 HNP HZ1 HZ2;have s0:=blk_cell HX5.out 0 (by simp);simp only[List.getElem_toArray,List.getElem_cons_zero,List.getElem_cons_succ]at s0;have HSH:=Lib.hid (fun W=>shares_any kind W);go_wp2_with fail;refine(HSH.out _).mono ?_;rintro e wx ⟨rfl,hwx⟩;obtain rfl:=hwx.symm;go_wp2_with fail;go_ret2;have hb6:=below_new W5 (.cells #[.pointer (some ⟨w.heap.size+1+1+1,0,none⟩),.pointer (some ⟨gt,0,none⟩),.pointer (some ⟨gl,0,none⟩),.bool (shK kind)] 78);exact⟨_,gt,gl,W4,rfl,blk_new _ _,HR4.out,HB5.out.trans (hb6.mono hz5),hz5,by simp,HB4.out.trans ((HB5.out.trans (hb6.mono hz5)).mono HB4.out.size)⟩
end Go.Proofs.YtfmiioddhpkdkaaGreat.Wo
namespace Go.Proofs.YtfmiioddhpkdkaaGreat.Tq
open Go.RowKit Go.Proofs.YtfmiioddhpkdkaaGreat.Ara
def kgQ (n:Int):Int:=1+n%5
def spV (n0 n1 n2 n3:Int):Value:= .agg #[.int .i64 (1+n3%13),.int .i64 (kgQ n0),.int .i64 (kgQ n1),.int .i64 (1+n2/4%4),.int .i64 (n2%4)]
set_option maxRecDepth 100000 in
set_option maxHeartbeats 4000000 in
theorem spec_any (n0 n1 n2 n3:Int)(h0:0≤n0∧n0≤255)(h1:0≤n1∧n1≤255)(h2:0≤n2∧n2≤255)(h3:0≤n3∧n3≤255)(w:World):
 Calls Tryz.prog 14 #[.agg #[.int .u8 n0,.int .u8 n1,.int .u8 n2,.int .u8 n3]] w fun e w'=>e= .returned (spV n0 n1 n2 n3)∧Below w.heap.size w w':=by
 unfold spV kgQ;have m0:0≤n3%13:=by omega
 have m1:n3%13<13:=by omega
 have m2:0≤n0%5:=by omega
 have m3:n0%5<5:=by omega
 have m4:0≤n1%5:=by omega
 have m5:n1%5<5:=by omega
 have m6:0≤n2/4:=by omega
 have m7:n2/4≤63:=by omega
 have m8:0≤n2/4%4:=by omega
 have m9:n2/4%4<4:=by omega
 have p0:0≤n2%4:=by omega
 have p1:n2%4<4:=by omega
 go_enter Tryz.func14,Tryz.ntmps14;go_wp2_with fail;exact bodyPost_ret (v:= .agg #[.int .i64 (1+n3%13),.int .i64 (1+n0%5),.int .i64 (1+n1%5),.int .i64 (1+n2/4%4),.int .i64 (n2%4)]) (by simp[results,Tryz.results14,go_sem]) rfl ⟨rfl,(below_new _ _).alloc (by simp) _⟩
end Go.Proofs.YtfmiioddhpkdkaaGreat.Tq
namespace Go.Proofs.YtfmiioddhpkdkaaGreat.Wo
open Go.RowKit Go.Proofs.YtfmiioddhpkdkaaGreat.Ara Go.Proofs.YtfmiioddhpkdkaaGreat.Tp Go.Proofs.YtfmiioddhpkdkaaGreat.Lok Go.Proofs.YtfmiioddhpkdkaaGreat.Fl Go.Proofs.YtfmiioddhpkdkaaGreat.Lk Go.Proofs.YtfmiioddhpkdkaaGreat.Co Go.Proofs.YtfmiioddhpkdkaaGreat.Cm
set_option maxRecDepth 100000 in
theorem make_co (p t:List Int)(A B:Option Addr)(c d:Nat)(w:World)(hck:chk p t=0)(hs:Sl w w.heap.size A (p.flatMap decI))(ht:Sl w w.heap.size B (t.flatMap decI))(gl ga ha:Nat)(σ:Ar)(kg kl par bud:Int)
 (hL:NewL w gl 6 t.length) (hA:ArAt w ga ha σ) (hlt:ha<w.heap.size) (hne:gl≠ga∧gl≠ha∧ga≠ha) (O:(nwOf p t kg kl par bud).Ok) (hB:Bud.right bud=true) (hr:(nwOf p t kg kl par bud).tN σ.t (lvs p).length≤σ.ws.length) (hw:σ.ws.length≤4096) (ho:σ.ops≤1000):
 Calls Tryz.prog 58 #[.pointer (some ⟨gl,0,none⟩),.pointer (some ⟨ga,0,none⟩),(.agg #[.slice A p.length c,.slice B t.length d]),(.agg #[.int .i64 kg,.int .i64 kl,.int .i64 par,.int .i64 bud])] w fun e w'=>e= .returned (.int .i64 0)∧∃cd:Cd,LkB w' gl 6 t.length 147 (couV cd.gl)∧CoAt w' cd ((nwOf p t kg kl par bud).pm σ) ((nwOf p t kg kl par bud).st σ)∧cd.col gl=0∧(∀x,x<w.heap.size→x≠ga→x≠ha→cd.col x=0)∧Mod [gl,ga,ha] w w':=by
 have hlg:=hA.lt;have hgl:gl<w.heap.size:=lt_of_blk hL;have HM0:=Lib.hid (MkB.made w (.slice A p.length c) (.slice B t.length d) kg kl par bud);generalize hW1:(w.alloc (.cells #[.slice A p.length c,.slice B t.length d] 24)).alloc (.cells #[.int .i64 kg,.int .i64 kl,.int .i64 par,.int .i64 bud] 56)=W1 at*;have HL1:=Lib.hid ((Mod.of_below (S:=[]) HM0.out.b).blk hL (by simp));have hz1:=HM0.out.b.size;have hA1:=hA.mod (S:=[]) (Mod.of_below HM0.out.b) (by simp) (by simp);have HNC:=Lib.hid (new_co p t A B c d W1 hck ((Sl.below hs HM0.out.b).more hz1) ((Sl.below ht HM0.out.b).more hz1) ga ha σ hA1 (by omega) hne.2.2 kg kl par bud O hB hr hw ho);have i0:=blk_cell HL1.out 0 (by simp);have x0:=blk_cell HM0.out.x0 0 (by simp);have x1:=blk_cell HM0.out.x0 1 (by simp);have y0:=blk_cell HM0.out.x1 0 (by simp);have y1:=blk_cell HM0.out.x1 1 (by simp);have y2:=blk_cell HM0.out.x1 2 (by simp);have y3:=blk_cell HM0.out.x1 3 (by simp);simp only[List.getElem_toArray,List.getElem_cons_zero,List.getElem_cons_succ]at i0 x0 x1 y0 y1 y2 y3;clear hL hA O hr hA1 hs ht hB;go_enter Tryz.func58,Tryz.ntmps58;go_wp2_with fail;refine HNC.out.mono ?_;unfold NewC;rintro e W3 ⟨cd,rfl,hco,⟨g1,g2,hlw⟩,hcol,hm3⟩;have hz3:=hm3.size;have HL3:=Lib.hid (hm3.blk HL1.out (by simp;omega));have c2:=blk_cell HL3.out 2 (by simp);simp only[List.getElem_toArray,List.getElem_cons_zero,List.getElem_cons_succ]at c2;have f2:=blk_free HL3.out 2;have hs4:=blk_set HL3.out 2 (.iface 147 (couV cd.gl));simp only[Array.set!_eq_setIfInBounds,List.setIfInBounds_toArray,List.set_cons_zero,List.set_cons_succ]at hs4;have HS4:=Lib.hid hs4;have hm4:Mod [gl] W3 (W3.setCell ⟨gl,2,none⟩ (.iface 147 (couV cd.gl))):=(Mod.refl _ _).setCell (by simp) _;have HF4:=Lib.hid (hco.low hlw hm4 (fun q hq=>by simp at hq;subst hq;exact⟨by omega,by rw[g1];exact hne.1,by rw[g2];exact hne.2.1⟩));have HM4:=Lib.hid (show Mod [gl,ga,ha] w (W3.setCell ⟨gl,2,none⟩ (.iface 147 (couV cd.gl))) from(((Mod.of_below HM0.out.b).trans (hD3x hm3)).setCell (by simp) _));have HC:=Lib.hid (show cd.col gl=0∧∀x,x<w.heap.size→x≠ga→x≠ha→cd.col x=0 from⟨hcol gl (by omega) hne.1 hne.2.1,fun x hx=>hcol x (by omega)⟩);clear hs4 hm4 hco g1 g2 hlw hcol hm3 HM0 HL3 HL1 HNC i0 x0 x1 y0 y1 y2 y3;unfold couV at HS4 HF4 HM4;go_wp2_with fail;go_ret;exact⟨rfl,cd,HS4.out,HF4.out,HC.out.1,HC.out.2,HM4.out⟩
end Go.Proofs.YtfmiioddhpkdkaaGreat.Wo
namespace Go.Proofs.YtfmiioddhpkdkaaGreat.Wo
open Go.RowKit Go.Proofs.YtfmiioddhpkdkaaGreat.Tp Go.Proofs.YtfmiioddhpkdkaaGreat.Ara Go.Proofs.YtfmiioddhpkdkaaGreat.Lok Go.Proofs.YtfmiioddhpkdkaaGreat.Fl Go.Proofs.YtfmiioddhpkdkaaGreat.Co Go.Proofs.YtfmiioddhpkdkaaGreat.Cm Go.Proofs.YtfmiioddhpkdkaaGreat.Ga Go.Proofs.YtfmiioddhpkdkaaGreat.Wf
def nwW:Nw:=nwOf twoP twoT 2 4 1 1
def pmW:Pm:=nwW.pm (Ar.fresh 4096)
def xW0:CS:=nwW.st (Ar.fresh 4096)
def pkW:List (Int×Int):=[(0,1),(0,0),(0,0),(0,0),(0,0),(0,0),(0,0),(0,0),(0,2),(3,1),(0,0),(0,0),(0,0),(0,0),(0,0),(0,0),(3,0),(3,0),(3,0),(3,0),(3,0),(3,0),(3,0)]
def wantW:List Int:=[1,2,3,1,4,2]
def awk:Nat→CS
 |0=>xW0
 |i+1=>(wact (ldC pmW) (awk i) (pkW.getD i (0,0)).1 (pkW.getD i (0,0)).2).2
def awE (i:Nat):Ev4:=(wact (ldC pmW) (awk i) (pkW.getD i (0,0)).1 (pkW.getD i (0,0)).2).1
def awC:Nat→Nat
 |0=>0
 |i+1=>if(awE i).1=0 then awC i else awC i+1
def awB (i:Nat):Bool:=decide ((awE i).1=0)||(decide (awC i<6)&&decide ((awE i).1=wantW.getD (awC i) 0))
set_option maxRecDepth 100000 in
theorem aw_all:(List.range 23).all awB=true:=by kernel_rfl
set_option maxRecDepth 100000 in
theorem aw_end:awC 23=6:=by kernel_rfl
theorem aw_at {i:Nat}(h:i<23):(awE i).1=0∨(awC i<6∧(awE i).1=wantW.getD (awC i) 0):=by
 have h1:=List.all_eq_true.1 aw_all i (List.mem_range.2 h);unfold awB at h1;rw[Bool.or_eq_true,Bool.and_eq_true,decide_eq_true_iff,decide_eq_true_iff,decide_eq_true_iff]at h1;exact h1
theorem hckW:chk twoP twoT=0:=by decide
theorem okW:nwW.Ok:=nw_ok hckW (by decide) (by decide) (by decide) (by decide)
theorem brW:Bud.right pmW.B=true:=by decide
end Go.Proofs.YtfmiioddhpkdkaaGreat.Wo
namespace Go.Proofs.YtfmiioddhpkdkaaGreat.Wo
open Go.RowKit Go.Proofs.YtfmiioddhpkdkaaGreat.Ara Go.Proofs.YtfmiioddhpkdkaaGreat.Tp Go.Proofs.YtfmiioddhpkdkaaGreat.Lok Go.Proofs.YtfmiioddhpkdkaaGreat.Fl Go.Proofs.YtfmiioddhpkdkaaGreat.Lk Go.Proofs.YtfmiioddhpkdkaaGreat.Co Go.Proofs.YtfmiioddhpkdkaaGreat.Cm
def NewW (kind:Int)(R:Nat→Nat→World→Prop)(w:World)(e:Ending)(w':World):Prop:=
 ∃gw ga gt gl W2,e= .returned (.tuple #[.pointer (some ⟨gw,0,none⟩),.int .i64 0])∧WoB w' gw ga gt gl (shK kind)∧R ga gl W2∧Below W2.heap.size W2 w'∧W2.heap.size≤gw∧gw<w'.heap.size∧Below w.heap.size w w'
theorem mod_fresh {gl ga ha:Nat}{w W V:World}(hb:Below w.heap.size w W)(hg:w.heap.size≤gl)(hm:Mod [gl,ga,ha] W V):Mod [ga,ha] w V:=
 ⟨hm.os.trans hb.os,hm.tape.trans hb.tape,hm.output.trans hb.output,Nat.le_trans hb.size hm.size,fun k hk hn=>(hm.block k (Nat.lt_of_lt_of_le hk hb.size) (fun h=>by
  rcases List.mem_cons.1 h with rfl|h
  ·omega
  ·exact hn h)).trans (hb.block k hk)⟩
def RF (B:Nat)(kind par:Int)(T:Nat)(ga gl:Nat)(W:World):Prop:=
 ∃gf gk gh ha,LkB W gl kind T 155 (aloV gf)∧FLAt W gf gk ga ha gh (pkK kind par 1) (tak kind T par (Ar.fresh 4096)).1 (tak kind T par (Ar.fresh 4096)).2∧(gl≠ga∧gl≠ha∧gl≠gh)∧ha<W.heap.size∧B≤ga∧B≤ha∧B≤gh
def RC (B:Nat)(q:Nw)(_ga gl:Nat)(W:World):Prop:=
 ∃cd:Cd,LkB W gl 6 q.T 147 (couV cd.gl)∧CoAt W cd (q.pm (Ar.fresh 4096)) (q.st (Ar.fresh 4096))∧cd.col gl=0∧∀x,x<B→cd.col x=0
theorem fresh_len:(Ar.fresh 4096).ws.length=4096:=by
 show(List.replicate 4096 (0:Int)).length=4096;exact List.length_replicate
section
variable(B0:Nat)(p t:List Int)(A B:Option Addr)(c d:Nat)(w:World)(hB0:B0≤w.heap.size)(hck:chk p t=0)(hs:Sl w w.heap.size A (p.flatMap decI))(ht:Sl w w.heap.size B (t.flatMap decI))(kg kl par bud:Int)
include hB0 hck hs ht
theorem wnew_flat (kind:Int)(hk:2≤kind∧kind≤5)(hp:1≤par∧par≤32):Calls Tryz.prog 18 #[(.agg #[.slice A p.length c,.slice B t.length d]),(.agg #[.int .i64 kind,.int .i64 kg,.int .i64 kl,.int .i64 par,.int .i64 bud])] w (NewW kind (RF B0 kind par t.length) w):=by
 obtain⟨l1,l2,l3,l4⟩:=chk_len hck;have O:mayK kind t.length par:=⟨by omega,by omega,fun _=>by omega,fun _=>by omega⟩
 have hnm:Named kind:=by
  have:kind=2∨kind=3∨kind=4∨kind=5:=by omega
  rcases this with rfl|rfl|rfl|rfl
  ·exact named_2
  ·exact named_3
  ·exact named_4
  ·exact named_5
 have hsz:=size_le O hp.2;refine(wnew_gen p t A B c d w hck hs ht kind kg kl par bud (fun gl W=>RF B0 kind par t.length (w.heap.size+1+1+1) gl W) fun W hb ha hlt=> ?_).mono fun e w' ⟨gw,gt,gl,W2,e1,e2,e3,e4⟩=>⟨gw,_,gt,gl,W2,e1,e2,e3,e4⟩;have hz:=hb.size;refine(lnew_gen p t A B c d W hck ((Sl.below hs hb).more hz) ((Sl.below ht hb).more hz) kind hnm (w.heap.size+1+1+1) kg kl par bud (fun gl V w'=>∃gf gk gh,LkB w' gl kind t.length 155 (aloV gf)∧FLAt w' gf gk (w.heap.size+1+1+1) (w.heap.size+1+1) gh (pkK kind par ((Ar.fresh 4096).t+1)) (tak kind t.length par (Ar.fresh 4096)).1 (tak kind t.length par (Ar.fresh 4096)).2∧(V.heap.size≤gf∧V.heap.size≤gk∧V.heap.size≤gh)∧Mod [gl,w.heap.size+1+1+1,w.heap.size+1+1] V w') fun gl V hg hv hl=> ?_).mono ?_
 ·have hzv:=hv.size
  exact make_flat p t A B c d V gl _ _ (Ar.fresh 4096) kg kl par bud kind t.length (by omega) hl (ha.mod (S:=[]) (Mod.of_below hv) (by simp) (by simp)) (by omega) (by omega) O (by rw[fresh_len];show 0+_≤_;omega) (by rw[fresh_len];exact Nat.le_refl _) (by decide)
 ·rintro e w' ⟨gl,V,rfl,hg,hv,hl,gf,gk,gh,h1,h2,h3,h4⟩
  have hb2:=h2.blocks;have hlg:gl<V.heap.size:=lt_of_blk hl;have hzv:=hv.size;have hz4:=h4.size;exact⟨gl,rfl,⟨gf,gk,gh,w.heap.size+1+1,h1,h2,⟨by omega,by omega,by omega⟩,by omega,by omega,by omega,by omega⟩,mod_fresh hv hg h4⟩
theorem wnew_co (hg:1≤kg∧kg≤5)(hl:1≤kl∧kl≤5)(hp:1≤par∧par≤32)(hb0:0≤bud)(hB:Bud.right bud=true):Calls Tryz.prog 18 #[(.agg #[.slice A p.length c,.slice B t.length d]),.agg #[.int .i64 6,.int .i64 kg,.int .i64 kl,.int .i64 par,.int .i64 bud]] w (NewW 6 (RC B0 (nwOf p t kg kl par bud)) w):=by
 obtain⟨l1,l2,l3,l4⟩:=chk_len hck;have O:=nw_ok hck hg hl hp hb0;have hft:=nw_fits hck O hp.2;refine(wnew_gen p t A B c d w hck hs ht 6 kg kl par bud (fun gl W=>RC B0 (nwOf p t kg kl par bud) (w.heap.size+1+1+1) gl W) fun W hb ha hlt=> ?_).mono fun e w' ⟨gw,gt,gl,W2,e1,e2,e3,e4⟩=>⟨gw,_,gt,gl,W2,e1,e2,e3,e4⟩;have hz:=hb.size;refine(lnew_gen p t A B c d W hck ((Sl.below hs hb).more hz) ((Sl.below ht hb).more hz) 6 named_6 (w.heap.size+1+1+1) kg kl par bud (fun gl V w'=>∃cd:Cd,LkB w' gl 6 t.length 147 (couV cd.gl)∧CoAt w' cd ((nwOf p t kg kl par bud).pm (Ar.fresh 4096)) ((nwOf p t kg kl par bud).st (Ar.fresh 4096))∧cd.col gl=0∧(∀x,x<V.heap.size→x≠w.heap.size+1+1+1→x≠w.heap.size+1+1→cd.col x=0)∧Mod [gl,w.heap.size+1+1+1,w.heap.size+1+1] V w') fun gl V hg hv hl=> ?_).mono ?_
 ·have hzv:=hv.size
  exact(make_co p t A B c d V hck ((Sl.below hs (hb.trans (hv.mono hz))).more (hb.trans (hv.mono hz)).size) ((Sl.below ht (hb.trans (hv.mono hz))).more (hb.trans (hv.mono hz)).size) gl _ _ (Ar.fresh 4096) kg kl par bud hl (ha.mod (S:=[]) (Mod.of_below hv) (by simp) (by simp)) (by omega) ⟨by omega,by omega,by omega⟩ O hB (by rw[fresh_len];exact hft) (by rw[fresh_len];exact Nat.le_refl _) (by decide))
 ·rintro e w' ⟨gl,V,rfl,hg,hv,hl,cd,h1,h2,h3,h5,h4⟩
  have hzv:=hv.size;exact⟨gl,rfl,⟨cd,h1,h2,h3,fun x hx=>h5 x (by omega) (by omega) (by omega)⟩,mod_fresh hv hg h4⟩
end
end Go.Proofs.YtfmiioddhpkdkaaGreat.Wo
namespace Go.Proofs.YtfmiioddhpkdkaaGreat.Tq
open Go.RowKit Go.Proofs.YtfmiioddhpkdkaaGreat.Ara Go.Proofs.YtfmiioddhpkdkaaGreat.Tp Go.Proofs.YtfmiioddhpkdkaaGreat.Wo Go.Proofs.YtfmiioddhpkdkaaGreat.Cm
def MadeW (kind:Int)(R:Nat→Nat→World→Prop)(w:World)(e:Ending)(w':World):Prop:=
 ∃gw ga gt gl W2,e= .returned (.pointer (some ⟨gw,0,none⟩))∧WoB w' gw ga gt gl (Lk.shK kind)∧R ga gl W2∧Below W2.heap.size W2 w'∧W2.heap.size≤gw∧gw<w'.heap.size∧Below w.heap.size w w'
section
variable(p t:List Int)(A B:Option Addr)(c d:Nat)(w:World)(hs:Sl w w.heap.size A (p.flatMap decI))(ht:Sl w w.heap.size B (t.flatMap decI))(n0 n1 n2 n3:Int)
include hs ht
set_option maxRecDepth 100000 in
theorem made_no (h:¬(chk p t=0∧t.length≤8)):Calls Tryz.prog 6 #[(.agg #[.slice A p.length c,.slice B t.length d]),(.agg #[.int .u8 n0,.int .u8 n1,.int .u8 n2,.int .u8 n3]),.int .i64 8] w fun e w'=>e= .returned (.pointer none)∧Below w.heap.size w w':=by
 have hsm:=fun W h1 h2=>Rn.small_any p t A B c d W h1 h2 8
 rw[show(decide (chk p t=0)&&decide ((t.length:Int)≤8))=false by
  by_cases h1:chk p t=0
  ·rw[decide_eq_true h1,Bool.true_and];exact decide_eq_false (by omega)
  ·rw[decide_eq_false h1,Bool.false_and]]at hsm
 have HSM:=Lib.hid hsm;have HS:=Lib.hid hs;have HT:=Lib.hid ht;clear hsm hs ht h;go_enter Tryz.func6,Tryz.ntmps6;go_wp2_with fail;have hb1:=below_new w (.cells #[.slice A p.length c,.slice B t.length d] 24);have hx1:=blk_new w (.cells #[.slice A p.length c,.slice B t.length d] 24);have hz1:(w.alloc (.cells #[.slice A p.length c,.slice B t.length d] 24)).heap.size=w.heap.size+1:=by simp
 generalize w.alloc (.cells #[.slice A p.length c,.slice B t.length d] 24)=W1 at*;have hb2:=below_new W1 (.cells #[.int .u8 n0,.int .u8 n1,.int .u8 n2,.int .u8 n3] 25);have hx2:=blk_new W1 (.cells #[.int .u8 n0,.int .u8 n1,.int .u8 n2,.int .u8 n3] 25);generalize W1.alloc (.cells #[.int .u8 n0,.int .u8 n1,.int .u8 n2,.int .u8 n3] 25)=W2 at*;have HB2:=Lib.hid (hb1.trans (hb2.mono hb1.size));have HX1:=Lib.hid ((Mod.of_below (S:=[]) hb2).blk hx1 (by simp));rw[hz1]at hx2;have HX2:=Lib.hid hx2;clear hb1 hx1 hb2 hx2 hz1;have b0:=blk_cell HX1.out 0 (by simp);have b1:=blk_cell HX1.out 1 (by simp);simp only[List.getElem_toArray,List.getElem_cons_zero,List.getElem_cons_succ]at b0 b1;refine(HSM.out W2 ((Sl.below HS.out HB2.out).more HB2.out.size) ((Sl.below HT.out HB2.out).more HB2.out.size)).mono ?_;rintro e W3 ⟨rfl,hb3⟩;have HB3:=Lib.hid (HB2.out.trans (hb3.mono HB2.out.size));clear hb3;go_wp2_with fail;go_ret;exact⟨rfl,HB3.out⟩
set_option maxRecDepth 100000 in
theorem made_yes (h0:0≤n0∧n0≤255)(h1:0≤n1∧n1≤255)(h2:0≤n2∧n2≤255)(h3:0≤n3∧n3≤255)(hck:chk p t=0)(h8:t.length≤8)(R:Nat→Nat→World→Prop)
 (HW:∀W,Below w.heap.size w W→Calls Tryz.prog 18 #[(.agg #[.slice A p.length c,.slice B t.length d]),spV n0 n1 n2 n3] W (NewW (1+n3%13) R W)):
 Calls Tryz.prog 6 #[(.agg #[.slice A p.length c,.slice B t.length d]),(.agg #[.int .u8 n0,.int .u8 n1,.int .u8 n2,.int .u8 n3]),.int .i64 8] w (MadeW (1+n3%13) R w):=by
 have hsm:=fun W h1 h2=>Rn.small_any p t A B c d W h1 h2 8;rw[show(decide (chk p t=0)&&decide ((t.length:Int)≤8))=true by rw[decide_eq_true hck,decide_eq_true (by omega)];rfl]at hsm;have HSM:=Lib.hid hsm;have HS:=Lib.hid hs;have HT:=Lib.hid ht;have HWN:=Lib.hid HW;have HSP:=Lib.hid (fun W=>spec_any n0 n1 n2 n3 h0 h1 h2 h3 W);clear hsm hs ht HW;unfold MadeW;go_enter Tryz.func6,Tryz.ntmps6;go_wp2_with fail;have hb1:=below_new w (.cells #[.slice A p.length c,.slice B t.length d] 24);have hx1:=blk_new w (.cells #[.slice A p.length c,.slice B t.length d] 24);have hz1:(w.alloc (.cells #[.slice A p.length c,.slice B t.length d] 24)).heap.size=w.heap.size+1:=by simp
 generalize w.alloc (.cells #[.slice A p.length c,.slice B t.length d] 24)=W1 at*;have hb2:=below_new W1 (.cells #[.int .u8 n0,.int .u8 n1,.int .u8 n2,.int .u8 n3] 25);have hx2:=blk_new W1 (.cells #[.int .u8 n0,.int .u8 n1,.int .u8 n2,.int .u8 n3] 25);generalize W1.alloc (.cells #[.int .u8 n0,.int .u8 n1,.int .u8 n2,.int .u8 n3] 25)=W2 at*;have HB2:=Lib.hid (hb1.trans (hb2.mono hb1.size));have HX1:=Lib.hid ((Mod.of_below (S:=[]) hb2).blk hx1 (by simp));rw[hz1]at hx2;have HX2:=Lib.hid hx2;clear hb1 hx1 hb2 hx2 hz1;have b0:=blk_cell HX1.out 0 (by simp);have b1:=blk_cell HX1.out 1 (by simp);simp only[List.getElem_toArray,List.getElem_cons_zero,List.getElem_cons_succ]at b0 b1;refine(HSM.out W2 ((Sl.below HS.out HB2.out).more HB2.out.size) ((Sl.below HT.out HB2.out).more HB2.out.size)).mono ?_;rintro e W3 ⟨rfl,hb3⟩;have hz3:=hb3.size;have HB3:=Lib.hid (HB2.out.trans (hb3.mono HB2.out.size));have HY1:=Lib.hid ((Mod.of_below (S:=[]) hb3).blk HX1.out (by simp));have HY2:=Lib.hid ((Mod.of_below (S:=[]) hb3).blk HX2.out (by simp));clear hb3 b0 b1 HX1 HX2 HB2 HSM;go_upto_region 3 with fail;have HBd:=Lib.hid (show Below w.heap.size w W3.drew from Below.drew HB3.out);have HZ1:=Lib.hid (show W3.drew.heap[w.heap.size]? =some (.cells #[.slice A p.length c,.slice B t.length d] 24 (0,0)) from HY1.out);have HZ2:=Lib.hid (show W3.drew.heap[w.heap.size+1]? =some (.cells #[.int .u8 n0,.int .u8 n1,.int .u8 n2,.int .u8 n3] 25 (0,0)) from HY2.out);have SW:=And.intro (And.intro (blk_cell HZ1.out 0 (by simp)) (blk_cell HZ1.out 1 (by simp))) (And.intro (And.intro (blk_cell HZ2.out 0 (by simp)) (blk_cell HZ2.out 1 (by simp))) (And.intro (blk_cell HZ2.out 2 (by simp)) (blk_cell HZ2.out 3 (by simp))));simp only[List.getElem_toArray,List.getElem_cons_zero,List.getElem_cons_succ]at SW;refine wp_region_held_drew (S:=fun V=>(V.cell? ⟨w.heap.size,0,none⟩=some (.slice A p.length c)∧V.cell? ⟨w.heap.size,1,none⟩=some (.slice B t.length d))∧(V.cell? ⟨w.heap.size+1,0,none⟩=some (.int .u8 n0)∧V.cell? ⟨w.heap.size+1,1,none⟩=some (.int .u8 n1))∧V.cell? ⟨w.heap.size+1,2,none⟩=some (.int .u8 n2)∧V.cell? ⟨w.heap.size+1,3,none⟩=some (.int .u8 n3)) (by kernel_rfl) SW (fun hHeld=> ?_);clear HY1 HY2 HB3;generalize W3.drew=W4 at*;refine take_to 0 (some 14) (v:= ?_) rfl rfl (by kernel_rfl) (by kernel_rfl) (by kernel_rfl) (fun _ _ _ h=>h) (Or.inl ⟨by rfl,?_⟩) (by first|trivial|assumption) ?_;rotate_left;focus(intro w hSw;(try dsimp only at hSw);go_simp;(try with_reducible rfl))
 simp only[Act.put,List.setIfInBounds_toArray,List.set_cons_zero,List.set_cons_succ];refine take_to 1 (some 15) (v:= ?_) rfl rfl (by kernel_rfl) (by kernel_rfl) (by kernel_rfl) (fun _ _ _ h=>h) (Or.inl ⟨by rfl,?_⟩) (by first|trivial|assumption) ?_;rotate_left;focus(intro w hSw;(try dsimp only at hSw);go_simp;(try with_reducible rfl))
 simp only[Act.put,List.setIfInBounds_toArray,List.set_cons_zero,List.set_cons_succ];refine wpAnyH_ready (rs:=[2]) (by kernel_rfl) (by simp) ?_;refine AllReadyH.cons rfl (fun K hK=> ?_) AllReadyH.nil;go_simp;refine(HSP.out W4).mono ?_;rintro e W5 ⟨rfl,hb5⟩;have HB5:=Lib.hid (HBd.out.trans (hb5.mono HBd.out.size));have HV1:=Lib.hid ((Mod.of_below (S:=[]) hb5).blk HZ1.out (by simp));have HV2:=Lib.hid ((Mod.of_below (S:=[]) hb5).blk HZ2.out (by simp));have SW5:=And.intro (And.intro (blk_cell HV1.out 0 (by simp)) (blk_cell HV1.out 1 (by simp))) (And.intro (And.intro (blk_cell HV2.out 0 (by simp)) (blk_cell HV2.out 1 (by simp))) (And.intro (blk_cell HV2.out 2 (by simp)) (blk_cell HV2.out 3 (by simp))));simp only[List.getElem_toArray,List.getElem_cons_zero,List.getElem_cons_succ]at SW5;have HW5:=Lib.hid (HWN.out W5 HB5.out);clear hb5 HZ1 HZ2 SW HWN HSP HBd;unfold spV at HW5⊢;go_simp;refine hK.out _ _ SW5 (fun hHeld=> ?_);refine wpAnyH_ready (rs:=[3]) (by kernel_rfl) (by simp) ?_;refine AllReadyH.cons rfl (fun K hK=> ?_) AllReadyH.nil;go_simp;refine HW5.out.mono ?_;unfold NewW;rintro e W6 ⟨gw,ga,gt,gl,V2,rfl,e2,e3,e4,e5,e6,hb6⟩;have HR6:=Lib.hid (And.intro e2 (And.intro e3 (And.intro e4 (And.intro e5 e6))));have HB6:=Lib.hid (HB5.out.trans (hb6.mono HB5.out.size));have HU1:=Lib.hid ((Mod.of_below (S:=[]) hb6).blk HV1.out (by simp));have HU2:=Lib.hid ((Mod.of_below (S:=[]) hb6).blk HV2.out (by simp));have SW6:=And.intro (And.intro (blk_cell HU1.out 0 (by simp)) (blk_cell HU1.out 1 (by simp))) (And.intro (And.intro (blk_cell HU2.out 0 (by simp)) (blk_cell HU2.out 1 (by simp))) (And.intro (blk_cell HU2.out 2 (by simp)) (blk_cell HU2.out 3 (by simp))));simp only[List.getElem_toArray,List.getElem_cons_zero,List.getElem_cons_succ]at SW6;clear hb6 e2 e3 e4 e5 e6 HV1 HV2 SW5 HW5 HU1 HU2 HB5;go_simp;refine hK.out _ _ SW6 (fun hHeld=> ?_);refine take_to 4 (some 13) (v:= ?_) rfl rfl (by kernel_rfl) (by kernel_rfl) (by kernel_rfl) (fun _ _ _ h=>h) (Or.inl ⟨by rfl,?_⟩) (by first|trivial|assumption) ?_;rotate_left;focus(intro w hSw;(try dsimp only at hSw);go_simp;(try with_reducible rfl))
 simp only[Act.put,List.setIfInBounds_toArray,List.set_cons_zero,List.set_cons_succ];refine take_to 5 (some 18) (v:= ?_) rfl rfl (by kernel_rfl) (by kernel_rfl) (by kernel_rfl) (fun _ _ _ h=>h) (Or.inl ⟨by rfl,?_⟩) (by first|trivial|assumption) ?_;rotate_left;focus(intro w hSw;(try dsimp only at hSw);go_simp;(try with_reducible rfl))
 simp only[Act.put,List.setIfInBounds_toArray,List.set_cons_zero,List.set_cons_succ];refine take_to 6 (some 19) (v:= ?_) rfl rfl (by kernel_rfl) (by kernel_rfl) (by kernel_rfl) (fun _ _ _ h=>h) (Or.inl ⟨by rfl,?_⟩) (by first|trivial|assumption) ?_;rotate_left;focus(intro w hSw;(try dsimp only at hSw);go_simp;(try with_reducible rfl))
 simp only[Act.put,List.setIfInBounds_toArray,List.set_cons_zero,List.set_cons_succ];refine take_to 7 (some 7) (v:= ?_) rfl rfl (by kernel_rfl) (by kernel_rfl) (by kernel_rfl) (fun _ _ _ h=>h) (Or.inl ⟨by rfl,?_⟩) (by first|trivial|assumption) ?_;rotate_left;focus(intro w hSw;(try dsimp only at hSw);go_simp;(try with_reducible rfl))
 simp only[Act.put,List.setIfInBounds_toArray,List.set_cons_zero,List.set_cons_succ];refine take_to 8 (some 8) (v:= ?_) rfl rfl (by kernel_rfl) (by kernel_rfl) (by kernel_rfl) (fun _ _ _ h=>h) (Or.inl ⟨by rfl,?_⟩) (by first|trivial|assumption) ?_;rotate_left;focus(intro w hSw;(try dsimp only at hSw);go_simp;(try with_reducible rfl))
 simp only[Act.put,List.setIfInBounds_toArray,List.set_cons_zero,List.set_cons_succ];refine wpAnyH_done (by kernel_rfl) ?_ _;clear SW6;go_wp2_with fail;go_ret;exact⟨gw,ga,gt,gl,V2,rfl,HR6.out.1,HR6.out.2.1,HR6.out.2.2.1,HR6.out.2.2.2.1,HR6.out.2.2.2.2,HB6.out⟩
end
theorem two_any (w:World):Calls Tryz.prog 20 #[] w fun e w'=>∃A B,e= .returned (.agg #[.slice A twoP.length 3,.slice B twoT.length 4])∧Sl w' w'.heap.size A (twoP.flatMap decI)∧Sl w' w'.heap.size B (twoT.flatMap decI)∧Below w.heap.size w w':=by
 have HN:=Lib.hid (below_new w (.cells #[.slice none 0 0,.slice none 0 0] 24));go_enter Tryz.func20,Tryz.ntmps20;go_wp2_with fail
 (try simp only[Exit.inBlock,Exit.then])
 have hB1:(((w.alloc (.cells #[.slice (some ⟨w.heap.size+1,0,none⟩) 3 3,.slice (some ⟨w.heap.size+1+1,0,none⟩) 4 4] 24)).alloc (.cells #[.int .i64 (-1),.int .i64 0,.int .i64 0] 3)).alloc (.cells #[.int .i64 1,.int .i64 1,.int .i64 2,.int .i64 2] 3)).heap[w.heap.size+1]? =some (.cells (its twoP) 3 (0,0)):=by
  refine blk_alloc ?_ _;have:=blk_new (w.alloc (.cells #[.slice (some ⟨w.heap.size+1,0,none⟩) 3 3,.slice (some ⟨w.heap.size+1+1,0,none⟩) 4 4] 24)) (.cells #[.int .i64 (-1),.int .i64 0,.int .i64 0] 3);rw[show(w.alloc (.cells #[.slice (some ⟨w.heap.size+1,0,none⟩) 3 3,.slice (some ⟨w.heap.size+1+1,0,none⟩) 4 4] 24)).heap.size=w.heap.size+1 by simp]at this;exact this
 have hB2:(((w.alloc (.cells #[.slice (some ⟨w.heap.size+1,0,none⟩) 3 3,.slice (some ⟨w.heap.size+1+1,0,none⟩) 4 4] 24)).alloc (.cells #[.int .i64 (-1),.int .i64 0,.int .i64 0] 3)).alloc (.cells #[.int .i64 1,.int .i64 1,.int .i64 2,.int .i64 2] 3)).heap[w.heap.size+1+1]? =some (.cells (its twoT) 3 (0,0)):=by
  have:=blk_new ((w.alloc (.cells #[.slice (some ⟨w.heap.size+1,0,none⟩) 3 3,.slice (some ⟨w.heap.size+1+1,0,none⟩) 4 4] 24)).alloc (.cells #[.int .i64 (-1),.int .i64 0,.int .i64 0] 3)) (.cells #[.int .i64 1,.int .i64 1,.int .i64 2,.int .i64 2] 3);rw[show((w.alloc (.cells #[.slice (some ⟨w.heap.size+1,0,none⟩) 3 3,.slice (some ⟨w.heap.size+1+1,0,none⟩) 4 4] 24)).alloc (.cells #[.int .i64 (-1),.int .i64 0,.int .i64 0] 3)).heap.size=w.heap.size+1+1 by simp]at this;exact this
 have hb:Below w.heap.size w (((w.alloc (.cells #[.slice (some ⟨w.heap.size+1,0,none⟩) 3 3,.slice (some ⟨w.heap.size+1+1,0,none⟩) 4 4] 24)).alloc (.cells #[.int .i64 (-1),.int .i64 0,.int .i64 0] 3)).alloc (.cells #[.int .i64 1,.int .i64 1,.int .i64 2,.int .i64 2] 3)):=
  (((Below.refl _ _).alloc (Nat.le_refl _) _).alloc (by simp) _).alloc (by simp;omega) _
 have s1:=Pa.sl_rw (l:=twoP) (fun j hj=>its_cell hB1 hj) (lt_of_blk hB1);have s2:=Pa.sl_rw (l:=twoT) (fun j hj=>its_cell hB2 hj) (lt_of_blk hB2);exact bodyPost_ret (v:= .agg #[.slice (some ⟨w.heap.size+1,0,none⟩) 3 3,.slice (some ⟨w.heap.size+1+1,0,none⟩) 4 4]) (by simp[results,Tryz.results20,go_sem]) rfl ⟨_,_,rfl,s1,s2,hb⟩
end Go.Proofs.YtfmiioddhpkdkaaGreat.Tq
namespace Go.Proofs.YtfmiioddhpkdkaaGreat.Wo
open Go.RowKit Go.Proofs.YtfmiioddhpkdkaaGreat.Ara Go.Proofs.YtfmiioddhpkdkaaGreat.Lok Go.Proofs.YtfmiioddhpkdkaaGreat.Ga Go.Proofs.YtfmiioddhpkdkaaGreat.Wf Go.Proofs.YtfmiioddhpkdkaaGreat.Fl
theorem wact_flat (p:PK)(n:Nat)(σ:Ar)(sp:List Sp)(hn:sp.length=n)(hc:∀t,gst (spOf sp t)=1→(doK p σ sp 0 t).1=true→(spOf (doK p σ sp 0 t).2.2 t).pc=10)(t w:Int):
 wact (ldF p n) (σ,sp) t w=fact p σ sp t w:=by
 unfold wact fact;rw[hn];by_cases ht:t<0∨(n:Int)≤t
 ·rw[if_pos (show t<0∨((ldF p n).N:Int)≤t from ht),if_pos ht]
 rw[if_neg (show¬(t<0∨((ldF p n).N:Int)≤t) from ht),if_neg ht];by_cases h0:w=0
 ·rw[if_pos h0,if_pos h0]
  unfold wstep;show(if gst (spOf sp t)=1 then((if(doK p σ sp 0 t).1 then((2:Int),t,false,if(spOf (doK p σ sp 0 t).2.2 t).pc=10 then(1:Int)else 0)else(0,t,false,0)),(doK p σ sp 0 t).2)else if gst (spOf sp t)=3 then((if(doK p σ sp 0 t).1 then((4:Int),t,false,(0:Int))else(0,t,false,0)),(doK p σ sp 0 t).2)else((0,t,false,0),σ,sp))=_;by_cases h1:gst (spOf sp t)=1
  ·have h13:gst (spOf sp t)=1∨gst (spOf sp t)=3:= .inl h1
   rw[if_pos h13];simp only[h1,if_true];by_cases hb:(doK p σ sp 0 t).1=true
   ·simp only[hb,if_true,hc t h1 hb]
   ·simp only[hb,if_false]
    rfl
  ·rw[if_neg h1]
   by_cases h3:gst (spOf sp t)=3
   ·have h13:gst (spOf sp t)=1∨gst (spOf sp t)=3:= .inr h3
    rw[if_pos h13,if_pos h3];simp only[h1,if_false]
   ·rw[if_neg h3,if_neg (by omega)]
 rw[if_neg h0,if_neg h0];by_cases h1:w=1
 ·rw[if_pos h1,if_pos h1]
  rfl
 rw[if_neg h1,if_neg h1];by_cases h3:w=3
 ·rw[if_pos h3,if_neg (by omega)]
  rfl
 rw[if_neg h3];by_cases h2:w=2
 ·rw[if_pos h2,if_pos h2]
  rfl
 rw[if_neg h2,if_neg h2];by_cases h4:w=4
 ·rw[if_pos h4]
  rfl
 rw[if_neg h4];rfl
theorem wact_ok {p:PK}{n m:Nat}{σ:Ar}{sp:List Sp}(h:OkK p σ sp n m)(t w:Int):wact (ldF p n) (σ,sp) t w=fact p σ sp t w:=by
 refine wact_flat p n σ sp h.len (fun u h1 hb=> ?_) t w
 have hg:0<(spOf sp u).pc∧(spOf sp u).pc<10:=by
  have:=h.pos u;unfold gst at h1
  repeat' split at h1
  all_goals omega
 rcases(h.step_pc u).2.2.1 hg.1 hg.2 with⟨_,h2⟩|⟨h2,_⟩
 ·exact h2
 ·rw[hb]at h2
  cases h2
end Go.Proofs.YtfmiioddhpkdkaaGreat.Wo
namespace Go.Proofs.YtfmiioddhpkdkaaGreat.Fl
open Go.RowKit Go.Proofs.YtfmiioddhpkdkaaGreat.Ara Go.Proofs.YtfmiioddhpkdkaaGreat.Lok
theorem OkK.queue {p:PK}{σ:Ar}{sp:List Sp}{n m:Nat}(h:OkK p σ sp n m):(∃P,p= .tas P)∨∃q,QuK p σ sp q:=by
 cases p with
 |tas P=>exact .inl ⟨P,rfl⟩
 |tic P=>
  right;obtain⟨S,T,hi,_⟩:=Tk.OkP.inv h;have hle:=hi.le
  have hc:∀k:Nat,∃i,k<T-S→Tk.inq (spOf sp i)∧(spOf sp i).a=(S:Int)+k:=fun k=>by
   by_cases hk:k<T-S
   ·obtain⟨i,h1,h2⟩:=hi.all ((S:Int)+k) (by omega) (by omega)
    exact⟨i,fun _=>⟨h1,h2⟩⟩
   ·exact⟨0,fun h=>absurd h hk⟩
  refine⟨(List.range (T-S)).map fun k=>(hc k).choose,S,T,hi,by simp;omega,fun k hk=> ?_⟩;rw[List.getElem_map,List.getElem_range];exact(hc k).choose_spec (by simpa using hk)
 |par P=>
  right;obtain⟨S,T,hi,_⟩:=Pt.OkP.inv h;have hle:=hi.le
  have hc:∀k:Nat,∃i,k<T-S→Pt.inq (spOf sp i)∧(spOf sp i).a=(S:Int)+k:=fun k=>by
   by_cases hk:k<T-S
   ·obtain⟨i,h1,h2⟩:=hi.all ((S:Int)+k) (by omega) (by omega)
    exact⟨i,fun _=>⟨h1,h2⟩⟩
   ·exact⟨0,fun h=>absurd h hk⟩
  refine⟨(List.range (T-S)).map fun k=>(hc k).choose,S,T,hi,by simp;omega,fun k hk=> ?_⟩;rw[List.getElem_map,List.getElem_range];exact(hc k).choose_spec (by simpa using hk)
 |mcs P=>obtain⟨q,hi⟩:=Mc.OkP.inv h;exact .inr ⟨q,hi⟩
 |clh P=>obtain⟨z,q,hi⟩:=Cl.OkP.inv h;exact .inr ⟨q,z,hi⟩
end Go.Proofs.YtfmiioddhpkdkaaGreat.Fl
namespace Go.Proofs.YtfmiioddhpkdkaaGreat.Wo
open Go.RowKit Go.Proofs.YtfmiioddhpkdkaaGreat.Ara Go.Proofs.YtfmiioddhpkdkaaGreat.Tp Go.Proofs.YtfmiioddhpkdkaaGreat.Lok Go.Proofs.YtfmiioddhpkdkaaGreat.Fl Go.Proofs.YtfmiioddhpkdkaaGreat.Lk Go.Proofs.YtfmiioddhpkdkaaGreat.Co Go.Proofs.YtfmiioddhpkdkaaGreat.Cm Go.Proofs.YtfmiioddhpkdkaaGreat.Ga Go.Proofs.YtfmiioddhpkdkaaGreat.Sp Go.Proofs.YtfmiioddhpkdkaaGreat.Wf
theorem woa_flat {B:Nat}{kind par:Int}{T:Nat}(hM:mayK kind T par)(hs:sizeK kind T par≤4096){gw ga gt gl:Nat}{W2 w':World}(hW:WoB w' gw ga gt gl (shK kind))(hR:RF B kind par T ga gl W2)(hb:Below W2.heap.size W2 w')(h1:W2.heap.size≤gw)(h2:gw<w'.heap.size):
 ∃c:Fp,c.g=gl∧(∀q∈ [c.ga,c.ha,c.hs],B≤q)∧LI gl (ldF (pkK kind par 1) T) (fun k W x=>FA c (pkK kind par 1) T 0 w'.heap.size k W x∧w'.heap.size≤W.heap.size) (fun b=>b=false) [c.ga,c.ha,c.hs] w'.heap.size∧
  WoA gw ga gt gl (ldF (pkK kind par 1) T) (fun k W x=>FA c (pkK kind par 1) T 0 w'.heap.size k W x∧w'.heap.size≤W.heap.size) [c.ga,c.ha,c.hs] w'.heap.size 0 w' (tak kind T par (Ar.fresh 4096)):=by
 obtain⟨gf,gk,gh,ha,r1,r2,⟨r3,r4,r5⟩,r6,r7,r8,r9⟩:=hR;obtain⟨b1,b2,b3,b4⟩:=r2.blocks;have hgl:gl<W2.heap.size:=lt_of_blk r1;have hz:=hb.size;have hsh:shK kind=false:=by unfold shK;rw[decide_eq_false (by have:=hM.1;omega)];rfl
 rw[hsh]at hW;have hok:OkK (pkK kind par 1) (tak kind T par (Ar.fresh 4096)).1 (tak kind T par (Ar.fresh 4096)).2 T (0+0):=ok_flat kind T par hM (Ar.fresh 4096) (fun k _=>zeros_at 4096 k) (by rw[fresh_len];show 0+_≤_;omega) (by rw[fresh_len];exact Nat.le_refl _) 0 (Nat.le_refl _);refine⟨⟨gl,gf,gk,ga,ha,gh,kind⟩,rfl,fun q hq=>by simp at hq;omega,li_flat (c:=⟨gl,gf,gk,ga,ha,gh,kind⟩) (p:=pkK kind par 1) (n:=T) (m0:=0) (L:=w'.heap.size) (by omega) ⟨by show ga<_;omega,by show ha<_;omega,by show gh<_;omega⟩,⟨hW,⟨⟨r1.same hb,r2.same hb,hok,hM.1.2,⟨r3,r4,r5⟩,⟨by show gl<_;omega,by show gf<_;omega,by show gk<_;omega,by show ga<_;omega,by show ha<_;omega,by show gh<_;omega⟩⟩,Nat.le_refl _⟩,by simp;omega,h2,Nat.le_refl _⟩⟩
theorem woa_co {B:Nat}{q:Nw}(O:q.Ok)(hr:q.tN 0 q.NN≤4096)(hB:Bud.right q.B=true){gw ga gt gl:Nat}{W2 w':World}(hW:WoB w' gw ga gt gl (shK 6))(hR:RC B q ga gl W2)(hb:Below W2.heap.size W2 w')(h1:W2.heap.size≤gw)(h2:gw<w'.heap.size):
 ∃c:Cd,(∀x∈colS c.col w'.heap.size,B≤x)∧LI gl (ldC (q.pm (Ar.fresh 4096))) (fun k W x=>CA gl 6 c (q.pm (Ar.fresh 4096)) (q.NN+1) w'.heap.size k W x) (fun b=>b=false) (colS c.col w'.heap.size) w'.heap.size∧
  WoA gw ga gt gl (ldC (q.pm (Ar.fresh 4096))) (fun k W x=>CA gl 6 c (q.pm (Ar.fresh 4096)) (q.NN+1) w'.heap.size k W x) (colS c.col w'.heap.size) w'.heap.size 0 w' (q.st (Ar.fresh 4096)):=by
 obtain⟨cd,r1,r2,r3,r4⟩:=hR;have hgl:gl<W2.heap.size:=lt_of_blk r1;have hz:=hb.size;have hsh:shK 6=false:=by decide
 rw[hsh]at hW;have hrm:q.tN (Ar.fresh 4096).t q.NN≤(Ar.fresh 4096).ws.length:=by rw[fresh_len];exact hr
 have hNN:q.NN≤4000:=by
  have:∀n,n≤q.NN→n≤q.tN 0 n:=fun n=>by
   induction n with
   |zero=>intro _;exact Nat.zero_le _
   |succ n ih=>intro h;have:=ih (by omega);unfold Nw.tN;omega
  have:=this q.NN (Nat.le_refl _);have h5:=O.g.2.1.2;omega
 have K:=r2.same hb;refine⟨cd,fun x hx=> ?_,li_co (Nw.dj O hrm) hB (by omega),⟨hW,⟨r1.same hb,K,Nw.ci O hrm (fun k _=>zeros_at 4096 k) (by rw[fresh_len];exact Nat.le_refl _) (by show 0+q.NN+1≤q.NN+1+0;omega),rfl,r3,⟨by omega,CoAt.clo K⟩,fun x hx=>K.s.fresh x hx,Nat.le_refl _⟩,fun hx=> ?_,h2,Nat.le_refl _⟩⟩
 ·have:=(mem_colS.1 hx).2
  exact Nat.le_of_not_lt fun h=>this (r4 x h)
 ·exact(mem_colS.1 hx).2 (r2.s.fresh gw h1)
theorem pk_order' {kind par:Int}{a:Nat}(h:2≤kind∧kind≤5){σ:Ar}{sp:List Sp}{n m:Nat}(ho:OkK (pkK kind par a) σ sp n m):(∃q,QuK (pkK kind par a) σ sp q)∧1≤dr (pkK kind par a):=by
 rcases(show kind=2∨kind=3∨kind=4∨kind=5 by omega)with rfl|rfl|rfl|rfl
 ·refine⟨?_,by show(1:Int)≤1;omega⟩
  rcases ho.queue with⟨P,h1⟩|h1
  ·have:(PK.tic ⟨a⟩)=PK.tas P:=h1
   cases this
  ·exact h1
 ·refine⟨?_,by show(1:Int)≤1;omega⟩
  rcases ho.queue with⟨P,h1⟩|h1
  ·have:(PK.par ⟨a,par⟩)=PK.tas P:=h1
   cases this
  ·exact h1
 ·refine⟨?_,by show(1:Int)≤3;omega⟩
  rcases ho.queue with⟨P,h1⟩|h1
  ·have:(PK.mcs ⟨a⟩)=PK.tas P:=h1
   cases this
  ·exact h1
 ·refine⟨?_,by show(1:Int)≤2;omega⟩
  rcases ho.queue with⟨P,h1⟩|h1
  ·have:(PK.clh ⟨a⟩)=PK.tas P:=h1
   cases this
  ·exact h1
theorem far_start {kind par:Int}{T:Nat}(hk:2≤kind∧kind≤5)(hM:mayK kind T par)(hs:sizeK kind T par≤4096):FaR (pkK kind par 1) (tak kind T par (Ar.fresh 4096),[]) []:=by
 have hok:OkK (pkK kind par 1) (tak kind T par (Ar.fresh 4096)).1 (tak kind T par (Ar.fresh 4096)).2 T 0:=ok_flat kind T par hM (Ar.fresh 4096) (fun k _=>zeros_at 4096 k) (by rw[fresh_len];show 0+_≤_;omega) (by rw[fresh_len];exact Nat.le_refl _) 0 (Nat.le_refl _);obtain⟨⟨q,hq⟩,hd⟩:=pk_order' hk hok;have hz:∀i,(spOf (tak kind T par (Ar.fresh 4096)).2 i).pc=0:=fun i=>tak_zero hM (by rw[fresh_len];show 0+_≤_;omega) i
 have hnil:q=[]:=by
  cases q with
  |nil=>rfl
  |cons i r=>
   have:=(QuK.mem hq i).1 (List.mem_cons_self ..);rw[hz i]at this;omega
 subst hnil;refine⟨[],[],[],rfl,⟨hq,List.Pairwise.nil,fun s hs=>absurd hs List.not_mem_nil,fun s hs=>absurd hs List.not_mem_nil,rfl,fun t ht=> ?_,fun t ht=> ?_,.inl rfl⟩⟩
 ·have:10≤(spOf (tak kind T par (Ar.fresh 4096)).2 t).pc:=ht
  rw[hz t]at this;omega
 ·have:0<(spOf (tak kind T par (Ar.fresh 4096)).2 t).pc:=ht
  rw[hz t]at this;omega
end Go.Proofs.YtfmiioddhpkdkaaGreat.Wo
