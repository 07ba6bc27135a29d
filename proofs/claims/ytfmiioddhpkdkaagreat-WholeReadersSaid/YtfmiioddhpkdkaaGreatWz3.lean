/- Merged texts: Tp7, PaP, Pa1, Pa2. -/
import Derived.Test.YtfmiioddhpkdkaaGreatWz2
import Derived.Maps.AppendAt
import Derived.Deep.Cut
set_option linter.unusedVariables false
set_option maxRecDepth 100000
set_option maxHeartbeats 8000000
namespace Go.Proofs.YtfmiioddhpkdkaaGreat.Tp
open Go.RowKit Li De Ara
theorem grown_mod {w w':World}{row:Option Nat}(h:w.grownBy w' row):Mod row.toList w w':=
 ⟨h.os,h.tape,h.output,h.size,fun k hk hn=>h.block k hk (fun e=>hn (by rw[←e];simp))⟩
theorem own_apart {S:List Nat}{w w':World}{base:Nat}{e:TypeId}{size:Nat}{v:Value}{n:Nat}{xs:List Value}(h:w.ownsRow base e size v n xs)(hm:Mod S w w')(hb:∀b,v.ownBlock=some b→b∉S):w'.ownsRow base e size v n xs:=by
 obtain⟨h1,h2⟩:=h;refine⟨h1,?_⟩;rcases h2 with h2|⟨g,cap,cur,rfl,hg,hbk,rest⟩
 ·exact .inl h2
 ·exact .inr ⟨g,cap,cur,rfl,hg,hm.blk hbk (hb g rfl),rest⟩
theorem own_block {w:World}{base:Nat}{e:TypeId}{size:Nat}{v:Value}{n:Nat}{xs:List Value}(h:w.ownsRow base e size v n xs){b:Nat}(hb:v.ownBlock=some b):base≤b∧b<w.heap.size:=by
 rcases h.2 with⟨rfl,_⟩|⟨g,cap,cur,rfl,hg,hbk,rest⟩
 ·cases hb
 ·simp[Value.ownBlock]at hb
  subst hb;exact⟨hg,lt_of_blk hbk⟩
theorem wpList_append1_at {P:Program}{ops:Array Oper}{rest:List Oper}{o:Oper}{a:Act}{Q:Exit→Act→World→Prop}(s x:Operand)(t e:TypeId)(z:Value)(size bytes:Nat)
 (hgd:o.guard=none) (ho:o.op= .call {callee:= .builtin .append,args:= #[s,x],argTypes:= #[t,t]}) (ht:P.underlying t=some (.slice e))
 (hinfo:(P.info? e).map (fun i=>(i.zero,i.size,i.bytes))=some (some z,size,bytes)) (hzs:z.cells.size=size) (hsz:0<size)
 (base:Nat) (w:World) (v:Value) (n:Nat) (xs:List Value) (news:Array Value) (e':TypeId) (c g:Nat) (hown:w.ownsRow base e size v n xs) (hs:a.eval s=v) (hx:a.eval x= .slice (some ⟨g,0,none⟩) 1 c) (hgs:w.heap.size=g)
 (hl:news.size=size) (h1:∀u∈news.toList,u.oneCell'=true) (h63:n+1≤maxLen) (hbytes:(n+1)*bytes≤140737488355328) (hbase:base≤w.heap.size)
 (h:∀v' w',Hid (w'.ownsRow base e size v' (n+1) (xs++news.toList))→Hid (w.grownBy w' v.ownBlock)→Hid (∀b,v'.ownBlock=some b→v.ownBlock=some b∨w.heap.size≤b)→wpList P ops Q rest (a.put o.dst v') w'):
 wpList P ops Q (o::rest) a (w.alloc (.cells news e')):=by
 subst hgs;obtain⟨i0,hi0,hz0,hz1,hz2⟩:=info_parts hinfo;refine wpList_append_own_at _ hgd s x t ho base e i0 z size bytes ht hi0 hz0 hz1 hz2 hzs hsz v n xs hs (hown.alloc _) ⟨w.heap.size,0,none⟩ 1 c news.toList hx (by simpa using hl) ?_ h1 h63 hbytes (by simp;omega) ?_
 ·intro j u hu
  have hadd:(⟨w.heap.size,0,none⟩:Addr).add j=⟨w.heap.size,j,none⟩:=by unfold Addr.add;split<;>simp_all
  rw[hadd,World.cell?_alloc_at _ _ _ _ rfl];simpa using hu
 ·intro v' w' h2 h3 _ h4
  have hg:=grown_trans (World.grownBy_alloc w (.cells news e') v.ownBlock) h3;refine h v' w' h2 hg (fun b hb=> ?_);rcases h4 with h4|h4
  ·left;rw[←h4];exact hb
  ·right
   rw[h4]at hb;injection hb with hb;rw[←hb];simp
def Apart (v u:Value):Prop:=∀b,v.ownBlock=some b→u.ownBlock≠some b
theorem Apart.symm {v u:Value}(h:Apart v u):Apart u v:=fun b hb e=>h b e hb
section
variable {B G:Nat}{W W':World}{a b c:Value}{la lb lc:List Int}
end
end Go.Proofs.YtfmiioddhpkdkaaGreat.Tp
namespace Go.Proofs.YtfmiioddhpkdkaaGreat.Tp
def cntK (t:List Int)(x:Int):Nat→Nat
 |0=>0
 |k+1=>cntK t x k+if t.getD k 0=x then 1 else 0
def ndI (p t:List Int)(k:Nat):Nat:=(idxI (lvs p) (t.getD k 0)).toNat
def slI (t:List Int)(k:Nat):Nat:=cntK t (t.getD k 0) k
def mtI (p t:List Int)(n:Nat):Nat:=cntK t ((lvs p).getD n 0) t.length
theorem cntK_le (t:List Int)(x:Int){k j:Nat}(h:k≤j):cntK t x k≤cntK t x j:=by
 induction j with
 |zero=>obtain rfl:k=0:=by omega
        exact Nat.le_refl _
 |succ j ih=>
  by_cases e:k=j+1
  ·rw[e];exact Nat.le_refl _
  ·exact Nat.le_trans (ih (by omega)) (Nat.le_add_right _ _)
theorem cntK_self (t:List Int)(k:Nat):cntK t (t.getD k 0) (k+1)=cntK t (t.getD k 0) k+1:=by
 show _+(if t.getD k 0=t.getD k 0 then 1 else 0)=_;rw[if_pos rfl]
theorem cntK_bound (t:List Int)(x:Int)(k:Nat):cntK t x k≤k:=by
 induction k with
 |zero=>exact Nat.le_refl _
 |succ k ih=>
  show cntK t x k+_≤_;split<;>omega
theorem nd_at {p t:List Int}{k:Nat}(h:t.getD k 0∈lvs p):ndI p t k<(lvs p).length∧(lvs p).getD (ndI p t k) 0=t.getD k 0∧idxI (lvs p) (t.getD k 0)=(ndI p t k:Int):=by
 obtain⟨j,h1,h2,h3⟩:=idx_at (n:=0) h;have e:idxI (lvs p) (t.getD k 0)=(j:Int):=by unfold idxI;rw[h2,Nat.zero_add]
 have e2:ndI p t k=j:=by unfold ndI;rw[e];exact Int.toNat_natCast j
 rw[e2];exact⟨h1,h3,e⟩
theorem chk_mem {p t:List Int}(h:chk p t=0){k:Nat}(hk:k<t.length):t.getD k 0∈lvs p:=mem_lvs.2 ((chk_ok h).2.2.2 _ (getD_mem hk))
theorem lvs_nodup (p:List Int):(lvs p).Nodup:=by
 unfold lvs lvK;refine List.Pairwise.filter _ ?_;refine List.Pairwise.map _ (fun a b (hab:a≠b) e=>hab (by omega)) List.nodup_range
section
variable {p t:List Int}(h:chk p t=0)
include h
theorem nd_lt {k:Nat}(hk:k<t.length):ndI p t k<(lvs p).length∧slI t k<mtI p t (ndI p t k):=by
 obtain⟨h1,h2,_⟩:=nd_at (chk_mem h hk);refine⟨h1,?_⟩;unfold mtI slI;rw[h2];have:=cntK_self t k;have:=cntK_le t (t.getD k 0) (show k+1≤t.length from hk);omega
theorem nd_inj {k u:Nat}(hk:k<t.length)(hu:u<t.length)(e:ndI p t k=ndI p t u)(e2:slI t k=slI t u):k=u:=by
 obtain⟨_,h2,_⟩:=nd_at (chk_mem h hk);obtain⟨_,h4,_⟩:=nd_at (chk_mem h hu);rw[e,h4]at h2
 have key:∀a b,a<b→t.getD a 0=t.getD b 0→slI t a<slI t b:=fun a b hab h9=>by
  have s1:=cntK_self t a;have s2:=cntK_le t (t.getD a 0) (show a+1≤b from hab);unfold slI;rw[←h9];omega
 rcases Nat.lt_trichotomy k u with h5|h5|h5
 ·have:=key k u h5 h2.symm
  omega
 ·exact h5
 ·have:=key u k h5 h2
  omega
end
theorem mt_le (p t:List Int)(n:Nat):mtI p t n≤t.length:=cntK_bound _ _ _
end Go.Proofs.YtfmiioddhpkdkaaGreat.Tp
namespace Go.Proofs.YtfmiioddhpkdkaaGreat.Pa
open Go.RowKit Tp Li De Ara
def Rw (W:World)(b:Nat)(l:List Int):Prop:=∀j,j<l.length→W.cell? ⟨b,j,none⟩=some (.int .i64 (l.getD j 0))
theorem cell_mod {S:List Nat}{a w:World}(hm:Mod S a w){p:Addr}(hp:p.block<a.heap.size)(hn:p.block∉S):w.cell? p=a.cell? p:=by
 unfold World.cell?;rw[hm.block _ hp hn]
theorem Rw.mod {S:List Nat}{a w:World}{b:Nat}{l:List Int}(h:Rw a b l)(hm:Mod S a w)(hb:b<a.heap.size)(hn:b∉S):Rw w b l:=fun j hj=>(cell_mod hm (p:=⟨b,j,none⟩) hb hn).trans (h j hj)
theorem Rw.of_own {B:Nat}{W:World}{v:Value}{l:List Int}(h1:W.ownsRow B 3 1 v l.length (l.map (Value.int .i64)))(hn:0<l.length):∃g cap,v= .slice (some ⟨g,0,none⟩) l.length cap∧B≤g∧g<W.heap.size∧Rw W g l:=by
 obtain⟨A2,c2,rfl,_,_,hs2⟩:=own_slice h1;have hs3:Sl W W.heap.size A2 (l.flatMap decI):=by rw[Ara.flatI];exact hs2
 rcases h1.2 with⟨_,h4⟩|⟨g,cp,cur,h3,hg,hbk,rest⟩
 ·omega
 ·injection h3 with h3 _ h5
  subst h3;obtain⟨b,off,e,hb,hcell⟩:=sl_g hs3 hn;injection e with e;injection e with e1 e2;subst e1 e2;exact⟨g,c2,rfl,hg,hb,fun j hj=>by have:=hcell j hj;rwa [Nat.zero_add]at this⟩
theorem clone_int (l:List Int)(A:Option Addr)(cap:Nat)(w:World)(hn:0<l.length)(hm:l.length≤1000)(hs:Sl w w.heap.size A (l.flatMap decI)):
 Calls Tryz.prog 59 #[.slice A l.length cap] w fun e w'=>∃g c,e= .returned (.slice (some ⟨g,0,none⟩) l.length c)∧w.heap.size≤g∧g<w'.heap.size∧Rw w' g l∧Below w.heap.size w w':=by
 suffices h:Calls Tryz.prog 59 #[.slice A l.length cap] w fun e w'=>∃v,e= .returned v∧w'.ownsRow w.heap.size 3 1 v l.length (l.map (Value.int .i64))∧Below w.heap.size w w' by
  refine h.mono ?_;rintro e w' ⟨v,rfl,h1,h2⟩;obtain⟨g,c,rfl,a,b,d⟩:=Rw.of_own h1 hn;exact⟨g,c,rfl,a,b,d,h2⟩
 obtain⟨b,off,rfl,hb,hcell⟩:=sl_g hs hn;obtain⟨i0,hi0,hz0,hz1,hz2⟩:=info_parts infoI;have HC:=Lib.hid hcell;have hq:∀W:World,(binOp .eql 22 (.slice (some ⟨b,off,none⟩) l.length cap) (.slice none 0 0)).run Tryz.prog W= .ok (.bool false) W:=fun W=>by kernel_rfl
 clear hs hcell;go_enter Tryz.func59,Tryz.ntmps59;go_wp2_with(at_builtin;refine wpList_append_own_at _ rfl (.tmp 5) (.tmp 6) 22 rfl w.heap.size 3 i0 (.int .i64 0) 1 8 Tryz.underlying22 hi0 hz0 hz1 hz2 rfl (by decide) (.slice (some ⟨w.heap.size,0,none⟩) 0 0) 0 [] rfl ?own ⟨b,off,none⟩ l.length cap (l.map (Value.int .i64)) rfl (by simp) ?cells ?one ?m63 ?by_ ?base ?k;case' k=>intro v' w2 hown2 hg2 _ _)
 case own=>exact World.ownsRow_made w #[] 0 (Nat.le_refl _) (Nat.zero_le _) rfl
 case cells=>
  intro j u hu;have hj:j<l.length:=by have:=(List.getElem?_eq_some_iff.1 hu).1;simpa using this
  have hadd:(⟨b,off,none⟩:Addr).add j=⟨b,off+j,none⟩:=by unfold Addr.add;split<;>simp_all
  rw[hadd,(below_new w (.cells #[] 3)).cell (p:=⟨b,off+j,none⟩) hb,HC.out j hj,←hu];simp[List.getElem?_eq_getElem hj]
 case one=>intro u hu;obtain⟨y,_,rfl⟩:=List.mem_map.1 hu;rfl
 case m63=>simp only[maxLen];omega
 case by_=>omega
 case base=>simp
 go_wp2_with fail;go_ret;refine⟨v',rfl,by simpa using hown2,?_⟩;exact((below_new w (.cells #[] 3)).grown hg2 (by simp) (fun k hk=>by simp[Value.ownBlock]at hk;omega))
theorem tleaves_row (p t:List Int)(A B:Option Addr)(c d:Nat)(w:World)(h:chk p t=0)(hs:Sl w w.heap.size A (p.flatMap decI))(ht:Sl w w.heap.size B (t.flatMap decI)):
 Calls Tryz.prog 119 #[(.agg #[.slice A p.length c,.slice B t.length d])] w fun e w'=>∃g k,e= .returned (.slice (some ⟨g,0,none⟩) (lvs p).length k)∧w.heap.size≤g∧g<w'.heap.size∧Rw w' g (lvs p)∧Below w.heap.size w w':=by
 obtain⟨l1,l2,l3,l4⟩:=chk_len h;have HL:=Lib.hid (fun W hW=>leaves_row p A c W (by omega) l1 (chk_ok h).2.1 hW);have HCK:=Lib.hid (fun W h1 h2=>check_any p t A B c d W (by omega) (by omega) h1 h2);rw[h]at HCK;have HS:=Lib.hid hs;have HT:=Lib.hid ht;clear hs ht h;go_enter Tryz.func119,Tryz.ntmps119;go_upto_region 1 with fail;have HX:=Lib.hid (Bx.made w (.slice A p.length c) (.slice B t.length d) 24);generalize w.alloc (.cells #[.slice A p.length c,.slice B t.length d] 24)=W0 at*;have c0:=HX.out.2.2.1;have c1:=HX.out.2.2.2;have SP:=Lib.hid (HX.out.sl HS.out);have ST:=Lib.hid (HX.out.sl HT.out);go_wp2_with fail;refine(HCK.out _ SP.out ST.out).mono ?_;rintro e W1 ⟨rfl,b1⟩;have HX1:=Lib.hid (HX.out.step b1);clear c0 c1 SP ST HX b1 HCK;have c0:=HX1.out.2.2.1;have c1:=HX1.out.2.2.2;have hsz:=HX1.out.1.size;go_wp2_with fail;refine(HL.out _ (HX1.out.sl HS.out)).mono ?_;rintro e W2 ⟨g,k,rfl,g1,g2,hr,b2⟩;have HB2:=Lib.hid (nx HX1.out.1 b2);have HR:=Lib.hid hr;clear hr b2;go_wp2_with fail;go_ret;exact⟨g,k,rfl,by omega,g2,HR.out,HB2.out⟩
def TbB (W:World)(gt:Nat)(A B:Value)(d st:Int)(vu vn vs vm:Value):Prop:=W.heap[gt]? =some (.cells #[A,B,.int .u32 d,.int .i32 st,.int .u32 0,vu,vn,vs,vm] 132 (0,0))
def slA (b:Nat)(l:List Int)(c:Nat):Value:= .slice (some ⟨b,0,none⟩) l.length c
abbrev nilV:Value:= .slice none 0 0
def PnAft (p t:List Int)(w:World)(e:Ending)(w':World):Prop:=
 ∃gt pb tb c d,e= .returned (.tuple #[.pointer (some ⟨gt,0,none⟩),.int .i64 0])∧TbB w' gt (slA pb p c) (slA tb t d) 0 0 nilV nilV nilV nilV∧Rw w' pb p∧Rw w' tb t∧(w.heap.size≤pb∧w.heap.size≤tb∧pb<gt∧tb<gt)∧Below w.heap.size w w'
theorem pnew_ok (p t:List Int)(A B:Option Addr)(c d:Nat)(w:World)(h:chk p t=0)(hs:Sl w w.heap.size A (p.flatMap decI))(ht:Sl w w.heap.size B (t.flatMap decI)):
 Calls Tryz.prog 39 #[(.agg #[.slice A p.length c,.slice B t.length d])] w (PnAft p t w):=by
 obtain⟨l1,l2,l3,l4⟩:=chk_len h;have HCK:=Lib.hid (fun W h1 h2=>check_any p t A B c d W (by omega) (by omega) h1 h2);have HCP:=Lib.hid (fun W hW=>clone_int p A c W l1 (by omega) hW);have HCT:=Lib.hid (fun W hW=>clone_int t B d W l3 (by omega) hW);rw[h]at HCK;have HS:=Lib.hid hs;have HT:=Lib.hid ht;clear hs ht h;go_enter Tryz.func39,Tryz.ntmps39;go_upto_region 1 with fail;have HX:=Lib.hid (Bx.made w (.slice A p.length c) (.slice B t.length d) 24);generalize w.alloc (.cells #[.slice A p.length c,.slice B t.length d] 24)=W0 at*;have c0:=HX.out.2.2.1;have c1:=HX.out.2.2.2;have SP:=Lib.hid (HX.out.sl HS.out);have ST:=Lib.hid (HX.out.sl HT.out);go_wp2_with fail;refine(HCK.out _ SP.out ST.out).mono ?_;rintro e W1 ⟨rfl,b1⟩;have HX1:=Lib.hid (HX.out.step b1);clear c0 c1 SP ST HX b1 HCK;have c0:=HX1.out.2.2.1;have c1:=HX1.out.2.2.2;go_upto_region 4 with fail;have SPd:Hid (Sl W1.drew W1.drew.heap.size A (p.flatMap decI)):=Lib.hid (HX1.out.sl HS.out);have STd:Hid (Sl W1.drew W1.drew.heap.size B (t.flatMap decI)):=Lib.hid (HX1.out.sl HT.out);have HXd:Hid (Bx w W1.drew (.slice A p.length c) (.slice B t.length d)):=Lib.hid ⟨Below.drew HX1.out.1,HX1.out.2⟩;have d0:W1.drew.cell? ⟨w.heap.size,0,none⟩=some (.slice A p.length c)∧W1.drew.cell? ⟨w.heap.size,1,none⟩=some (.slice B t.length d):=⟨c0,c1⟩;refine wp_region_held_drew (S:=fun V=>V.cell? ⟨w.heap.size,0,none⟩=some (.slice A p.length c)∧V.cell? ⟨w.heap.size,1,none⟩=some (.slice B t.length d)) (by kernel_rfl) d0 (fun hHeld=> ?_);clear c0 c1 d0 HX1;generalize W1.drew=X0 at*;have ho0:=HXd.out.1.size;refine take_to 0 (some 10) (v:= ?_) rfl rfl (by kernel_rfl) (by kernel_rfl) (by kernel_rfl) (fun _ _ _ h=>h) (Or.inl ⟨by rfl,?_⟩) (by first|trivial|assumption) ?_;rotate_left;focus(intro w hSw;(try dsimp only at hSw);go_simp;(try with_reducible rfl))
 simp only[Act.put,List.setIfInBounds_toArray,List.set_cons_zero,List.set_cons_succ];refine take_to 1 (some 11) (v:= ?_) rfl rfl (by kernel_rfl) (by kernel_rfl) (by kernel_rfl) (fun _ _ _ h=>h) (Or.inl ⟨by rfl,?_⟩) (by first|trivial|assumption) ?_;rotate_left;focus(intro w hSw;(try dsimp only at hSw);go_simp;(try with_reducible rfl))
 simp only[Act.put,List.setIfInBounds_toArray,List.set_cons_zero,List.set_cons_succ];refine take_to 3 (some 13) (v:= ?_) rfl rfl (by kernel_rfl) (by kernel_rfl) (by kernel_rfl) (fun _ _ _ h=>h) (Or.inl ⟨by rfl,?_⟩) (by first|trivial|assumption) ?_;rotate_left;focus(intro w hSw;(try dsimp only at hSw);go_simp;(try with_reducible rfl))
 simp only[Act.put,List.setIfInBounds_toArray,List.set_cons_zero,List.set_cons_succ];refine take_to 4 (some 14) (v:= ?_) rfl rfl (by kernel_rfl) (by kernel_rfl) (by kernel_rfl) (fun _ _ _ h=>h) (Or.inl ⟨by rfl,?_⟩) (by first|trivial|assumption) ?_;rotate_left;focus(intro w hSw;(try dsimp only at hSw);go_simp;(try with_reducible rfl))
 simp only[Act.put,List.setIfInBounds_toArray,List.set_cons_zero,List.set_cons_succ];refine wpAnyH_ready (rs:=[2]) (by kernel_rfl) (by simp) ?_;refine AllReadyH.cons rfl (fun K hK=> ?_) AllReadyH.nil;go_simp;refine(HCP.out _ SPd.out).mono ?_;rintro e W2 ⟨ga,ca,rfl,a1,a2,ra,b2⟩;have HX2:=Lib.hid (HXd.out.step b2);have SB2:=Lib.hid (STd.out.step b2);have RA2:=Lib.hid ra;have ho2:=HX2.out.1.size;clear ra b2;go_simp;refine hK.out _ _ HX2.out.2.2 (fun hHeld=> ?_);refine wpAnyH_ready (rs:=[5]) (by kernel_rfl) (by simp) ?_;refine AllReadyH.cons rfl (fun K hK=> ?_) AllReadyH.nil;go_simp;refine(HCT.out _ SB2.out).mono ?_;rintro e W3 ⟨gb,cb,rfl,k1,k2,rb,b3⟩;have HX3:=Lib.hid (HX2.out.step b3);have RA3:=Lib.hid (RA2.out.mod (S:=[]) (Mod.of_below b3) a2 (by simp));have RB3:=Lib.hid rb;have ho3:=HX3.out.1.size;have hs3:=b3.size;clear rb b3;go_simp;refine hK.out _ _ HX3.out.2.2 (fun hHeld=> ?_);refine take_to 6 (some 16) (v:= ?_) rfl rfl (by kernel_rfl) (by kernel_rfl) (by kernel_rfl) (fun _ _ _ h=>h) (Or.inl ⟨by rfl,?_⟩) (by first|trivial|assumption) ?_;rotate_left;focus(intro w hSw;(try dsimp only at hSw);go_simp;(try with_reducible rfl))
 simp only[Act.put,List.setIfInBounds_toArray,List.set_cons_zero,List.set_cons_succ];refine take_to 7 (some 17) (v:= ?_) rfl rfl (by kernel_rfl) (by kernel_rfl) (by kernel_rfl) (fun _ _ _ h=>h) (Or.inl ⟨by rfl,?_⟩) (by first|trivial|assumption) ?_;rotate_left;focus(intro w hSw;(try dsimp only at hSw);go_simp;(try with_reducible rfl))
 simp only[Act.put,List.setIfInBounds_toArray,List.set_cons_zero,List.set_cons_succ];refine wpAnyH_ready (rs:=[8]) (by kernel_rfl) (by simp) ?_;refine AllReadyH.cons rfl (fun K hK=> ?_) AllReadyH.nil;go_simp;refine hK.out _ _ (HX3.out.step (below_new W3 _)).2.2 (fun hHeld=> ?_);refine take_to 9 (some 2) (v:= ?_) rfl rfl (by kernel_rfl) (by kernel_rfl) (by kernel_rfl) (fun _ _ _ h=>h) (Or.inl ⟨by rfl,?_⟩) (by first|trivial|assumption) ?_;rotate_left;focus(intro w hSw;(try dsimp only at hSw);go_simp;(try with_reducible rfl))
 simp only[Act.put,List.setIfInBounds_toArray,List.set_cons_zero,List.set_cons_succ];refine take_to 10 (some 3) (v:= ?_) rfl rfl (by kernel_rfl) (by kernel_rfl) (by kernel_rfl) (fun _ _ _ h=>h) (Or.inl ⟨by rfl,?_⟩) (by first|trivial|assumption) ?_;rotate_left;focus(intro w hSw;(try dsimp only at hSw);go_simp;(try with_reducible rfl))
 simp only[Act.put,List.setIfInBounds_toArray,List.set_cons_zero,List.set_cons_succ];refine wpAnyH_done (by kernel_rfl) ?_ _;go_wp2_with fail;go_ret2;exact⟨_,ga,gb,ca,cb,rfl,blk_new _ _,RA3.out.mod (S:=[]) (Mod.of_below (below_new _ _)) (by omega) (by simp),RB3.out.mod (S:=[]) (Mod.of_below (below_new _ _)) (by omega) (by simp),⟨by omega,by omega,by omega,by omega⟩,nx HX3.out.1 (below_new _ _)⟩
end Go.Proofs.YtfmiioddhpkdkaaGreat.Pa
namespace Go.Proofs.YtfmiioddhpkdkaaGreat.Pa
open Go.RowKit Tp Li De Ara
theorem infoSI:(Tryz.prog.info? 22).map (fun i=>(i.zero,i.size,i.bytes))=some (some (.slice none 0 0),1,24):=by kernel_rfl
structure FnP (w:World)(gt pb tb eb gm B2:Nat)(p t:List Int)(lu:List Value)(ln ls mm:List Int)(vu vn vs:Value)(W:World):Prop where
 mm_:W.heap[gm]? =some (.cells (its mm) 3 (0,0))
 ou:W.ownsRow B2 22 1 vu lu.length lu
 on:W.ownsRow B2 3 1 vn ln.length (ln.map (Value.int .i64))
 os:W.ownsRow B2 3 1 vs ls.length (ls.map (Value.int .i64))
 un:Apart vu vn
 us:Apart vu vs
 ns:Apart vn vs
 md:Mod [gt] w W
 ord:gt<w.heap.size∧w.heap.size≤eb∧eb<gm∧gm<B2∧B2≤W.heap.size
 lv:Rw W eb (lvs p)
 rp:Rw W pb p
 rt:Rw W tb t
 bp:pb<w.heap.size∧tb<w.heap.size∧pb≠gt∧tb≠gt
section
variable {w:World}{gt pb tb eb gm B2:Nat}{p t:List Int}{lu:List Value}{ln ls mm:List Int}{vu vn vs:Value}{W W':World}(h:FnP w gt pb tb eb gm B2 p t lu ln ls mm vu vn vs W)
include h
theorem FnP.mod {S:List Nat}(hm:Mod S W W')(hS:∀x∈S,x=gt):FnP w gt pb tb eb gm B2 p t lu ln ls mm vu vn vs W':=by
 obtain⟨o1,o2,o3,o4,o5⟩:=h.ord;obtain⟨b1,b2,b3,b4⟩:=h.bp;have hm':Mod [gt] W W':=hm.sub (fun k hk=>by rw[hS k hk];simp)
 have key:∀ {v:Value} {n:Nat} {e:TypeId} {xs:List Value},W.ownsRow B2 e 1 v n xs→∀b,v.ownBlock=some b→b∉ [gt]:=fun ho b hb hx=>by
  have:=(own_block ho hb).1;have:b=gt:=by simpa using hx
  omega
 exact⟨hm'.blk h.mm_ (by simp;omega),own_apart h.ou hm' (key h.ou),own_apart h.on hm' (key h.on),own_apart h.os hm' (key h.os),h.un,h.us,h.ns,h.md.trans hm',⟨o1,o2,o3,o4,Nat.le_trans o5 hm.size⟩,
  h.lv.mod hm' (by omega) (by simp;omega),h.rp.mod hm' (by have:=h.md.size;omega) (by simp;omega),h.rt.mod hm' (by have:=h.md.size;omega) (by simp;omega),h.bp⟩
theorem FnP.same (hb:Below W.heap.size W W'):FnP w gt pb tb eb gm B2 p t lu ln ls mm vu vn vs W':=h.mod (S:=[]) (Mod.of_below hb) (by simp)
theorem FnP.set (k:Nat)(v:Value):FnP w gt pb tb eb gm B2 p t lu ln ls mm vu vn vs (W.setCell ⟨gt,k,none⟩ v):=h.mod (S:=[gt]) ((Mod.refl _ _).setCell (by simp) _) (by simp)
theorem FnP.pm (j:Nat)(y:Int):FnP w gt pb tb eb gm B2 p t lu ln ls (mm.set j y) vu vn vs (W.setCell ⟨gm,j,none⟩ (.int .i64 y)):=by
 obtain⟨o1,o2,o3,o4,o5⟩:=h.ord;obtain⟨b1,b2,b3,b4⟩:=h.bp;have hm':Mod [gm] W (W.setCell ⟨gm,j,none⟩ (.int .i64 y)):=(Mod.refl _ _).setCell (by simp) _;have hw:=h.md.size
 have key:∀ {v:Value} {n:Nat} {e:TypeId} {xs:List Value},W.ownsRow B2 e 1 v n xs→∀b,v.ownBlock=some b→b∉ [gm]:=fun ho b hb hx=>by
  have:=(own_block ho hb).1;have:b=gm:=by simpa using hx
  omega
 exact⟨its_set h.mm_ j y,own_apart h.ou hm' (key h.ou),own_apart h.on hm' (key h.on),own_apart h.os hm' (key h.os),h.un,h.us,h.ns,h.md.setNew (p:=⟨gm,j,none⟩) (by show w.heap.size≤gm;omega) _,⟨o1,o2,o3,o4,Nat.le_trans o5 hm'.size⟩,
  h.lv.mod hm' (by omega) (by simp;omega),h.rp.mod hm' (by omega) (by simp;omega),h.rt.mod hm' (by omega) (by simp;omega),h.bp⟩
theorem FnP.pn {v':Value}{x:Int}(hown:W'.ownsRow B2 3 1 v' (ln.length+1) (ln.map (Value.int .i64)++ [.int .i64 x]))(hg:W.grownBy W' vn.ownBlock)(hn:∀b,v'.ownBlock=some b→vn.ownBlock=some b∨W.heap.size≤b):
 FnP w gt pb tb eb gm B2 p t lu (ln++ [x]) ls mm vu v' vs W'∧Mod vn.ownBlock.toList W W'∧∀y∈vn.ownBlock.toList,B2≤y:=by
 obtain⟨o1,o2,o3,o4,o5⟩:=h.ord;obtain⟨b1,b2,b3,b4⟩:=h.bp;have hm:=grown_mod hg;have hw:=h.md.size;have hS:∀x∈vn.ownBlock.toList,vn.ownBlock=some x:=by simp
 have hB:∀x∈vn.ownBlock.toList,B2≤x:=fun x hx=>(own_block h.on (hS x hx)).1;have hno:∀q,q<B2→q∉vn.ownBlock.toList:=fun q hq hx=>by have:=hB q hx;omega
 have key:∀u,(∀b,u.ownBlock=some b→b<W.heap.size)→Apart u vn→Apart u v':=fun u hu ha b hb e=>by
  rcases hn b e with h9|h9
  ·exact ha b hb h9
  ·have:=hu b hb;omega
 have q2:=own_apart h.ou hm (fun b hb hx=>h.un b hb (hS b hx));have q3:=own_apart h.os hm (fun b hb hx=>h.ns.symm b hb (hS b hx));have k2:=key _ (fun b hb=>(own_block h.ou hb).2) h.un;have k3:=key _ (fun b hb=>(own_block h.os hb).2) h.ns.symm;have hmd:=h.md.of_grown hg (fun k hk=> .inl (by have:=(own_block h.on hk).1;omega));have r1:=hm.blk h.mm_ (hno gm o4);have r2:=h.lv.mod hm (by omega) (hno eb (by omega));have r3:=h.rp.mod hm (by omega) (hno pb (by omega));have r4:=h.rt.mod hm (by omega) (hno tb (by omega));have r5:=Nat.le_trans o5 hm.size;exact⟨⟨r1,q2,by simpa using hown,q3,k2,h.us,k3.symm,hmd,⟨o1,o2,o3,o4,r5⟩,r2,r3,r4,h.bp⟩,hm,hB⟩
theorem FnP.ps {v':Value}{x:Int}(hown:W'.ownsRow B2 3 1 v' (ls.length+1) (ls.map (Value.int .i64)++ [.int .i64 x]))(hg:W.grownBy W' vs.ownBlock)(hn:∀b,v'.ownBlock=some b→vs.ownBlock=some b∨W.heap.size≤b):
 FnP w gt pb tb eb gm B2 p t lu ln (ls++ [x]) mm vu vn v' W'∧Mod vs.ownBlock.toList W W'∧∀y∈vs.ownBlock.toList,B2≤y:=by
 obtain⟨o1,o2,o3,o4,o5⟩:=h.ord;obtain⟨b1,b2,b3,b4⟩:=h.bp;have hm:=grown_mod hg;have hw:=h.md.size;have hS:∀x∈vs.ownBlock.toList,vs.ownBlock=some x:=by simp
 have hB:∀x∈vs.ownBlock.toList,B2≤x:=fun x hx=>(own_block h.os (hS x hx)).1;have hno:∀q,q<B2→q∉vs.ownBlock.toList:=fun q hq hx=>by have:=hB q hx;omega
 have key:∀u,(∀b,u.ownBlock=some b→b<W.heap.size)→Apart u vs→Apart u v':=fun u hu ha b hb e=>by
  rcases hn b e with h9|h9
  ·exact ha b hb h9
  ·have:=hu b hb;omega
 have q2:=own_apart h.ou hm (fun b hb hx=>h.us b hb (hS b hx));have q3:=own_apart h.on hm (fun b hb hx=>h.ns b hb (hS b hx));have k2:=key _ (fun b hb=>(own_block h.ou hb).2) h.us;have k3:=key _ (fun b hb=>(own_block h.on hb).2) h.ns;have hmd:=h.md.of_grown hg (fun k hk=> .inl (by have:=(own_block h.os hk).1;omega));have r1:=hm.blk h.mm_ (hno gm o4);have r2:=h.lv.mod hm (by omega) (hno eb (by omega));have r3:=h.rp.mod hm (by omega) (hno pb (by omega));have r4:=h.rt.mod hm (by omega) (hno tb (by omega));have r5:=Nat.le_trans o5 hm.size;exact⟨⟨r1,q2,q3,by simpa using hown,h.un,k2,k3,hmd,⟨o1,o2,o3,o4,r5⟩,r2,r3,r4,h.bp⟩,hm,hB⟩
theorem FnP.pu {v':Value}{x:Value}(hown:W'.ownsRow B2 22 1 v' (lu.length+1) (lu++ [x]))(hg:W.grownBy W' vu.ownBlock)(hn:∀b,v'.ownBlock=some b→vu.ownBlock=some b∨W.heap.size≤b):
 FnP w gt pb tb eb gm B2 p t (lu++ [x]) ln ls mm v' vn vs W'∧Mod vu.ownBlock.toList W W'∧∀y∈vu.ownBlock.toList,B2≤y:=by
 obtain⟨o1,o2,o3,o4,o5⟩:=h.ord;obtain⟨b1,b2,b3,b4⟩:=h.bp;have hm:=grown_mod hg;have hw:=h.md.size;have hS:∀x∈vu.ownBlock.toList,vu.ownBlock=some x:=by simp
 have hB:∀x∈vu.ownBlock.toList,B2≤x:=fun x hx=>(own_block h.ou (hS x hx)).1;have hno:∀q,q<B2→q∉vu.ownBlock.toList:=fun q hq hx=>by have:=hB q hx;omega
 have key:∀u,(∀b,u.ownBlock=some b→b<W.heap.size)→Apart u vu→Apart u v':=fun u hu ha b hb e=>by
  rcases hn b e with h9|h9
  ·exact ha b hb h9
  ·have:=hu b hb;omega
 have q2:=own_apart h.on hm (fun b hb hx=>h.un.symm b hb (hS b hx));have q3:=own_apart h.os hm (fun b hb hx=>h.us.symm b hb (hS b hx));have k2:=key _ (fun b hb=>(own_block h.on hb).2) h.un.symm;have k3:=key _ (fun b hb=>(own_block h.os hb).2) h.us.symm;have hmd:=h.md.of_grown hg (fun k hk=> .inl (by have:=(own_block h.ou hk).1;omega));have r1:=hm.blk h.mm_ (hno gm o4);have r2:=h.lv.mod hm (by omega) (hno eb (by omega));have r3:=h.rp.mod hm (by omega) (hno pb (by omega));have r4:=h.rt.mod hm (by omega) (hno tb (by omega));have r5:=Nat.le_trans o5 hm.size;exact⟨⟨r1,by simpa using hown,q2,q3,k2.symm,k3.symm,h.ns,hmd,⟨o1,o2,o3,o4,r5⟩,r2,r3,r4,h.bp⟩,hm,hB⟩
end
theorem TbB.mod {S:List Nat}{W W':World}{gt:Nat}{A B:Value}{d st:Int}{vu vn vs vm:Value}(h:TbB W gt A B d st vu vn vs vm)(hm:Mod S W W')(hn:gt∉S):TbB W' gt A B d st vu vn vs vm:=hm.blk h hn
section
variable {W:World}{gt:Nat}{A B:Value}{d st:Int}{vu vn vs vm:Value}(h:TbB W gt A B d st vu vn vs vm)
include h
theorem TbB.setU (v:Value):TbB (W.setCell ⟨gt,5,none⟩ v) gt A B d st v vn vs vm:=by have:=blk_set h 5 v;simpa[TbB]using this
theorem TbB.setN (v:Value):TbB (W.setCell ⟨gt,6,none⟩ v) gt A B d st vu v vs vm:=by have:=blk_set h 6 v;simpa[TbB]using this
theorem TbB.setS (v:Value):TbB (W.setCell ⟨gt,7,none⟩ v) gt A B d st vu vn v vm:=by have:=blk_set h 7 v;simpa[TbB]using this
theorem TbB.setM (v:Value):TbB (W.setCell ⟨gt,8,none⟩ v) gt A B d st vu vn vs v:=by have:=blk_set h 8 v;simpa[TbB]using this
theorem TbB.cells:W.cell? ⟨gt,0,none⟩=some A∧W.cell? ⟨gt,1,none⟩=some B∧W.cell? ⟨gt,2,none⟩=some (.int .u32 d)∧W.cell? ⟨gt,3,none⟩=some (.int .i32 st)∧W.cell? ⟨gt,5,none⟩=some vu∧W.cell? ⟨gt,6,none⟩=some vn∧W.cell? ⟨gt,7,none⟩=some vs∧W.cell? ⟨gt,8,none⟩=some vm∧∀i,W.frozen? ⟨gt,i,none⟩=false:=
 ⟨blk_cell h 0 (by simp),blk_cell h 1 (by simp),blk_cell h 2 (by simp),blk_cell h 3 (by simp),blk_cell h 5 (by simp),blk_cell h 6 (by simp),blk_cell h 7 (by simp),blk_cell h 8 (by simp),blk_free h⟩
end
theorem wp_append1n {P:Program}{o:Oper}{a:Act}{K:Act→World→Prop}{Q:Exit→Act→World→Prop}(s x:Operand)(t e:TypeId)(z:Value)(size bytes:Nat)
 (ho:o.op= .call {callee:= .builtin .append,args:= #[s,x],argTypes:= #[t,t]}) (ht:P.underlying t=some (.slice e))
 (hinfo:(P.info? e).map (fun i=>(i.zero,i.size,i.bytes))=some (some z,size,bytes)) (hzs:z.cells.size=size) (hsz:0<size)
 (base:Nat) (w:World) (v:Value) (n:Nat) (xs:List Value) (news:Array Value) (e':TypeId) (c g:Nat) (hown:w.ownsRow base e size v n xs) (hs:a.eval s=v) (hx:a.eval x= .slice (some ⟨g,0,none⟩) 1 c) (hgs:w.heap.size=g)
 (hl:news.size=size) (h1:∀u∈news.toList,u.oneCell'=true) (h63:n+1≤maxLen) (hbytes:(n+1)*bytes≤140737488355328) (hbase:base≤w.heap.size)
 (h:∀v' w',Hid (w'.ownsRow base e size v' (n+1) (xs++news.toList))→Hid (w.grownBy w' v.ownBlock)→Hid (∀b,v'.ownBlock=some b→v.ownBlock=some b∨w.heap.size≤b)→K (a.put o.dst v') w'):
 o.wp P a (w.alloc (.cells news e')) K Q:=by
 subst hgs;obtain⟨i0,hi0,hz0,hz1,hz2⟩:=info_parts hinfo
 obtain⟨v',w',hr,h2,h3,_,h4⟩:=run_append_own_at (P:=P) (w.alloc (.cells news e')) base t o.type e i0 z size bytes ht hi0 hz0 hz1 hz2 hzs hsz v n xs (hown.alloc _) ⟨w.heap.size,0,none⟩ 1 c news.toList (by simpa using hl) (by
  intro j u hu;have hadd:(⟨w.heap.size,0,none⟩:Addr).add j=⟨w.heap.size,j,none⟩:=by unfold Addr.add;split<;>simp_all
  rw[hadd,World.cell?_alloc_at _ _ _ _ rfl];simpa using hu) h1 h63 hbytes (by simp;omega)
 unfold Oper.wp execOp;simp only[ho,resolve,invoke,builtin,Sem.run_bind,Sem.run_pure,Result.andThen_ok,List.map_toArray,List.map_cons,List.map_nil,hs,hx,hr];refine h v' w' h2 (grown_trans (World.grownBy_alloc w (.cells news e') v.ownBlock) h3) (fun b hb=> ?_);rcases h4 with h4|h4
 ·left;rw[←h4];exact hb
 ·right
  rw[h4]at hb;injection hb with hb;rw[←hb];simp
end Go.Proofs.YtfmiioddhpkdkaaGreat.Pa
