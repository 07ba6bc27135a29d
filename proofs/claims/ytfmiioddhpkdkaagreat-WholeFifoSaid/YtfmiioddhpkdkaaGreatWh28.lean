/- Merged texts: WoG, WoI, WoC, Lo3, Wn1, Tq1, Lo4, WaP, Wn2. -/
import Derived.Test.YtfmiioddhpkdkaaGreatWh27
import Derived.Laws.ResultCell
set_option linter.unusedVariables false
/- Package locks: what a lock without readers tells: Ask and Count. -/
namespace Go.Proofs.YtfmiioddhpkdkaaGreat.Wo
open Go.RowKit Go.Proofs.YtfmiioddhpkdkaaGreat.Ara Go.Proofs.YtfmiioddhpkdkaaGreat.Lok Go.Proofs.YtfmiioddhpkdkaaGreat.Ga Go.Proofs.YtfmiioddhpkdkaaGreat.Wf Go.Proofs.YtfmiioddhpkdkaaGreat.Fl Go.Proofs.YtfmiioddhpkdkaaGreat.Lk

section
variable {gf gl ga ha hs : Nat} {p : PK} {σ : Ar} {sp : List Sp} {w : World} (K : FLAt w gf gl ga ha hs p σ sp)
include K
set_option maxRecDepth 100000 in
theorem alone_ask (n m : Nat) (ho : OkK p σ sp n m) (hm : m ≤ 100000) (i : Int) : Calls Tryz.prog 236 #[aloV gf, .int .i64 i, .bool false] w fun e w' => e = .returned (.bool (doK p σ sp 1 i).1) ∧ FLAt w' gf gl ga ha hs p (doK p σ sp 1 i).2.1 (doK p σ sp 1 i).2.2 ∧ Mod [ga, ha, hs] w w' := by
  have hb := below_new w (.cells #[.iface 167 (.pointer (some ⟨gf, 0, none⟩))] 155)
  have HA := Lib.hid (Ask_flat (K.same hb) n m ho hm i)
  have HB := Lib.hid (Mod.of_below (S := [ga, ha, hs]) hb)
  have h1 := fun W => mfAsk gf W
  have h2 := fun a W => cfAsk a W
  clear K ho hb
  unfold aloV
  generalize doK p σ sp 1 i = r at *
  obtain ⟨b, σ2, sp2⟩ := r
  simp only at HA
  go_enter Tryz.func236, Tryz.ntmps236
  go_wp2_with fail
  refine HA.out.mono ?_
  rintro e w2 ⟨rfl, hk, hm2⟩
  have HK2 := Lib.hid hk
  have HM2 := Lib.hid (HB.out.trans hm2)
  clear hk hm2
  go_wp2_with fail
  go_ret
  exact ⟨rfl, HK2.out, HM2.out⟩
set_option maxRecDepth 100000 in
theorem one_flat (i : Int) : Calls Tryz.prog 238 #[.iface 167 (.pointer (some ⟨gf, 0, none⟩)), .int .i64 i] w fun e w' => e = .returned (.int .i64 (if (spOf sp i).pc = 10 then 1 else 0)) ∧ Below w.heap.size w w' := by
  have HS := Lib.hid (Spot_flat K i)
  have hf := fun a b c d W => sfld a b c d W
  have h1 := fun W => mfSpot gf W
  have h2 := fun a W => cSpot a W
  clear K
  generalize spOf sp i = s at *
  obtain ⟨xp, xa, xb, xc⟩ := s
  simp only at HS ⊢
  by_cases h : xp = 10
  · subst h
    rw [if_pos rfl]
    go_enter Tryz.func238, Tryz.ntmps238
    go_wp2_with fail
    refine HS.out.mono ?_
    rintro e w2 ⟨rfl, hb⟩
    have hb := Lib.hid hb
    go_wp2_with fail
    go_ret
    exact ⟨rfl, hb.out⟩
  · rw [if_neg h]
    have e0 := ibeq_no h
    go_enter Tryz.func238, Tryz.ntmps238
    go_wp2_with fail
    refine HS.out.mono ?_
    rintro e w2 ⟨rfl, hb⟩
    have hb := Lib.hid hb
    go_wp2_with fail
    go_ret
    exact ⟨rfl, hb.out⟩
set_option maxRecDepth 100000 in
theorem alone_count (i : Int) : Calls Tryz.prog 237 #[aloV gf, .int .i64 i] w fun e w' => e = .returned (.int .i64 (if (spOf sp i).pc = 10 then 1 else 0)) ∧ Below w.heap.size w w' := by
  have hb := below_new w (.cells #[.iface 167 (.pointer (some ⟨gf, 0, none⟩))] 155)
  have HA := Lib.hid (one_flat (K.same hb) i)
  have HB := Lib.hid hb
  clear K hb
  unfold aloV
  generalize (if (spOf sp i).pc = 10 then (1 : Int) else 0) = c at *
  go_enter Tryz.func237, Tryz.ntmps237
  go_wp2_with fail
  refine HA.out.mono ?_
  rintro e w2 ⟨rfl, h2⟩
  have h2 := Lib.hid (HB.out.trans (h2.mono HB.out.size))
  go_wp2_with fail
  go_ret
  exact ⟨rfl, h2.out⟩
end
end Go.Proofs.YtfmiioddhpkdkaaGreat.Wo

/- A flat lock inside package locks is a lock as a world asks it. -/
namespace Go.Proofs.YtfmiioddhpkdkaaGreat.Wo
open Go.RowKit Go.Proofs.YtfmiioddhpkdkaaGreat.Ara Go.Proofs.YtfmiioddhpkdkaaGreat.Lok Go.Proofs.YtfmiioddhpkdkaaGreat.Ga Go.Proofs.YtfmiioddhpkdkaaGreat.Wf Go.Proofs.YtfmiioddhpkdkaaGreat.Fl Go.Proofs.YtfmiioddhpkdkaaGreat.Lk

def ldF (p : PK) (n : Nat) : LD (Ar × List Sp) where
  N := n
  sh := false
  st x t := gst (spOf x.2 t)
  rd _ _ := false
  ask x t _ := doK p x.1 x.2 1 t
  leave x t := doK p x.1 x.2 2 t
  step x t := doK p x.1 x.2 0 t
  cn x t := if (spOf x.2 t).pc = 10 then 1 else 0
structure Fp where
  g : Nat
  gf : Nat
  gl : Nat
  ga : Nat
  ha : Nat
  hs : Nat
  kind : Int
structure FA (c : Fp) (p : PK) (n m0 L : Nat) (k : Nat) (W : World) (x : Ar × List Sp) : Prop where
  lk : LkB W c.g c.kind (n : Int) 155 (aloV c.gf)
  fl : FLAt W c.gf c.gl c.ga c.ha c.hs p x.1 x.2
  ok : OkK p x.1 x.2 n (m0 + k)
  k5 : c.kind ≤ 5
  ns : c.g ≠ c.ga ∧ c.g ≠ c.ha ∧ c.g ≠ c.hs
  lo : c.g < L ∧ c.gf < L ∧ c.gl < L ∧ c.ga < L ∧ c.ha < L ∧ c.hs < L
theorem fl_base {B gf gl ga ha hs : Nat} {p : PK} {σ : Ar} {sp : List Sp} {W W' : World} (k : FLAt W gf gl ga ha hs p σ sp) (hb : Below B W W') (h0 : gf < B) (h1 : gl < B) (h2 : ga < B) (h3 : ha < B) (h4 : hs < B) : FLAt W' gf gl ga ha hs p σ sp := by
  have key : ∀ {X : Nat}, X < B → W'.heap[X]? = W.heap[X]? := fun h => hb.block _ h
  refine ⟨(key h0).trans k.fb, ?_, k.n1, k.n2, k.n3⟩
  have a := k.at_
  cases p with
  | tas P => obtain ⟨k1, k2, k3, ⟨c, k4⟩, k5⟩ := a; exact ⟨k1.upd (S := []) (Upd.of_below hb) h2 h3 (by simp) (by simp), k2.of_blk (key h4), k3, ⟨c, (key h1).trans k4⟩, k5⟩
  | tic P => obtain ⟨k1, k2, k3, ⟨c, k4⟩, k5⟩ := a; exact ⟨k1.upd (S := []) (Upd.of_below hb) h2 h3 (by simp) (by simp), k2.of_blk (key h4), k3, ⟨c, (key h1).trans k4⟩, k5⟩
  | par P => obtain ⟨k1, k2, k3, ⟨c, k4⟩, k5⟩ := a; exact ⟨k1.upd (S := []) (Upd.of_below hb) h2 h3 (by simp) (by simp), k2.of_blk (key h4), k3, ⟨c, (key h1).trans k4⟩, k5⟩
  | mcs P => obtain ⟨k1, k2, k3, ⟨c, k4⟩, k5⟩ := a; exact ⟨k1.upd (S := []) (Upd.of_below hb) h2 h3 (by simp) (by simp), k2.of_blk (key h4), k3, ⟨c, (key h1).trans k4⟩, k5⟩
  | clh P => obtain ⟨k1, k2, k3, ⟨c, k4⟩, k5⟩ := a; exact ⟨k1.upd (S := []) (Upd.of_below hb) h2 h3 (by simp) (by simp), k2.of_blk (key h4), k3, ⟨c, (key h1).trans k4⟩, k5⟩
theorem rd_flat {kind : Int} (h : kind ≤ 5) (s : Sp) : rdS kind s = false := by
  unfold rdS shK
  rw [show decide (11 ≤ kind) = false from decide_eq_false (by omega)]
  simp
section
variable {c : Fp} {p : PK} {n m0 L k : Nat} {W W' : World} {x : Ar × List Sp}
theorem FA.keep (K : FA c p n m0 L k W x) (hb : Below L W W') : FA c p n m0 L k W' x := by
  obtain ⟨l1, l2, l3, l4, l5, l6⟩ := K.lo
  exact ⟨(hb.block _ l1).trans K.lk, fl_base K.fl hb l2 l3 l4 l5 l6, K.ok, K.k5, K.ns, K.lo⟩
theorem FA.spot (K : FA c p n m0 L k W x) (hL : L ≤ W.heap.size) (t : Int) : Calls Tryz.prog 61 #[.pointer (some ⟨c.g, 0, none⟩), .int .i64 t] W fun e w' => e = .returned (vSp (spOf x.2 t)) ∧ Below W.heap.size W w' := by
  have hn : x.2.length = n := K.ok.len
  by_cases ht : t < 0 ∨ (n : Int) ≤ t
  · rw [spOf_out (by rw [hn]; exact ht)]
    exact Spot_out c.g c.kind n _ _ W K.lk t ht
  · refine Spot_gen c.g c.kind n _ _ W K.lk _ _ cSpot (mSpot c.gf) t (by omega) (by omega) (spOf x.2 t) fun V hb => ?_
    exact Spot_flat (K.fl.same hb) t
theorem FA.acts (K : FA c p n m0 L k W x) {x' : Ar × List Sp} (hk : FLAt W' c.gf c.gl c.ga c.ha c.hs p x'.1 x'.2) (ho : OkK p x'.1 x'.2 n (m0 + k + 1)) (hm : Mod [c.ga, c.ha, c.hs] W W') : FA c p n m0 L (k + 1) W' x' := by
  obtain ⟨n1, n2, n3⟩ := K.ns
  exact ⟨K.lk.mod hm (by simp; omega), hk, ho, K.k5, K.ns, K.lo⟩
theorem OkK.up {σ : Ar} {sp : List Sp} {m : Nat} (h : OkK p σ sp n m) : OkK p σ sp n (m + 1) := by
  have := h.act 7 0
  rwa [do_else p σ sp 7 0 (.inr (by omega))] at this
theorem li_flat (hm0 : m0 ≤ 50000) (hl : c.ga < L ∧ c.ha < L ∧ c.hs < L) : LI c.g (ldF p n) (fun k W x => FA c p n m0 L k W x ∧ L ≤ W.heap.size) (fun b => b = false) [c.ga, c.ha, c.hs] L := by
  refine ⟨by simp; omega, fun k W x K => ?_, fun k W W' x K hb => ⟨K.1.keep hb, Nat.le_trans K.2 hb.size⟩, fun k W x K => threads_lk _ _ _ _ _ W K.1.lk, fun k W x t K => ?_, fun k W x t K => ?_, fun k W x t b hk hb K h0 h1 => ?_, fun k W x t hk K h0 h1 => ?_, fun k W x t hk K h0 h1 _ => ?_, fun k W x t K h0 h1 => ?_⟩
  · exact ⟨⟨K.1.lk, K.1.fl, OkK.up K.1.ok, K.1.k5, K.1.ns, K.1.lo⟩, K.2⟩
  · exact State_gen c.g W t _ fun V hb => (K.1.keep (hb.mono K.2)).spot (Nat.le_trans K.2 hb.size) t
  · have := Reads_gen c.g c.kind n _ _ W K.1.lk t _ fun V hb => (K.1.keep (hb.mono K.2)).spot (Nat.le_trans K.2 hb.size) t
    rw [rd_flat K.1.k5] at this
    exact this
  · subst hb
    exact (Ask_gen c.g c.kind n _ _ W K.1.lk _ _ cAsk (mAsk c.gf) t false h0 h1 _ (fun w' => FLAt w' c.gf c.gl c.ga c.ha c.hs p _ _ ∧ Mod [c.ga, c.ha, c.hs] W w') (alone_ask K.1.fl n (m0 + k) K.1.ok (by omega) t)).mono fun e w' ⟨e1, e2, e3⟩ => ⟨e1, ⟨K.1.acts e2 (K.1.ok.act 1 t) e3, Nat.le_trans K.2 e3.size⟩, e3⟩
  · exact (Leave_gen c.g c.kind n _ _ W K.1.lk _ _ cLeave (mLeave c.gf) t h0 h1 _ (fun w' => FLAt w' c.gf c.gl c.ga c.ha c.hs p _ _ ∧ Mod [c.ga, c.ha, c.hs] W w') (Leave_flat K.1.fl n (m0 + k) K.1.ok (by omega) t)).mono fun e w' ⟨e1, e2, e3⟩ => ⟨e1, ⟨K.1.acts e2 (K.1.ok.act 2 t) e3, Nat.le_trans K.2 e3.size⟩, e3⟩
  · exact (Step_gen c.g c.kind n _ _ W K.1.lk _ _ cStep (mStep c.gf) t h0 h1 _ (fun w' => FLAt w' c.gf c.gl c.ga c.ha c.hs p _ _ ∧ Mod [c.ga, c.ha, c.hs] W w') (Step_flat K.1.fl n (m0 + k) K.1.ok (by omega) t)).mono fun e w' ⟨e1, e2, e3⟩ => ⟨e1, ⟨K.1.acts e2 (K.1.ok.act 0 t) e3, Nat.le_trans K.2 e3.size⟩, e3⟩
  · exact Count_gen c.g c.kind n _ _ W K.1.lk _ _ cCount (mCount c.gf) t h0 h1 _ (fun w' => Below W.heap.size W w') (alone_count K.1.fl t)
end
end Go.Proofs.YtfmiioddhpkdkaaGreat.Wo

/- A cohort lock inside package locks is a lock as a world asks it. -/
namespace Go.Proofs.YtfmiioddhpkdkaaGreat.Wo
open Go.RowKit Go.Proofs.YtfmiioddhpkdkaaGreat.Ara Go.Proofs.YtfmiioddhpkdkaaGreat.Lok Go.Proofs.YtfmiioddhpkdkaaGreat.Ga Go.Proofs.YtfmiioddhpkdkaaGreat.Fl Go.Proofs.YtfmiioddhpkdkaaGreat.Lk Go.Proofs.YtfmiioddhpkdkaaGreat.Co Go.Proofs.YtfmiioddhpkdkaaGreat.Cm

def couV (gf : Nat) : Value := .agg #[.iface 143 (.pointer (some ⟨gf, 0, none⟩))]
theorem cmLeave (gf : Nat) (w : World) : (method 456 147 (couV gf) "Leave").run Tryz.prog w = .ok (165, .pointer (some ⟨gf, 0, none⟩)) w := by kernel_rfl
theorem cmStep (gf : Nat) (w : World) : (method 456 147 (couV gf) "Step").run Tryz.prog w = .ok (167, .pointer (some ⟨gf, 0, none⟩)) w := by kernel_rfl
theorem cmSpot (gf : Nat) (w : World) : (method 456 147 (couV gf) "Spot").run Tryz.prog w = .ok (166, .pointer (some ⟨gf, 0, none⟩)) w := by kernel_rfl
theorem cmCount (gf : Nat) (w : World) : (method 456 147 (couV gf) "Count").run Tryz.prog w = .ok (164, .pointer (some ⟨gf, 0, none⟩)) w := by kernel_rfl
theorem cmAsk (gf : Nat) (w : World) : (method 456 147 (couV gf) "Ask").run Tryz.prog w = .ok (179, couV gf) w := by kernel_rfl
theorem cmfAsk (gf : Nat) (w : World) : (method 456 143 (.pointer (some ⟨gf, 0, none⟩)) "Ask").run Tryz.prog w = .ok (163, .pointer (some ⟨gf, 0, none⟩)) w := by kernel_rfl
theorem ccLeave (a : Array Value) (w : World) : (callFunc 165 a).run Tryz.prog w = .ok (.enter 165 a) w := by kernel_rfl
theorem ccStep (a : Array Value) (w : World) : (callFunc 167 a).run Tryz.prog w = .ok (.enter 167 a) w := by kernel_rfl
theorem ccSpot (a : Array Value) (w : World) : (callFunc 166 a).run Tryz.prog w = .ok (.enter 166 a) w := by kernel_rfl
theorem ccCount (a : Array Value) (w : World) : (callFunc 164 a).run Tryz.prog w = .ok (.enter 164 a) w := by kernel_rfl
theorem ccfAsk (a : Array Value) (w : World) : (callFunc 163 a).run Tryz.prog w = .ok (.enter 163 a) w := by kernel_rfl
theorem ccAsk (a : Array Value) (w : World) : (callFunc 179 a).run Tryz.prog w = .ok (.enter 179 a) w := by kernel_rfl
def ldC (P : Pm) : LD CS where
  N := P.T
  sh := false
  st x t := gst (spOf x.S t)
  rd _ _ := false
  ask x t _ := (turnB x.S t 0, askC P x t)
  leave x t := (turnB x.S t 10, leaveC x t)
  step x t := (stepB P x t, stepC P x t)
  cn x t := cntV (spOf x.S t)
structure CLo (c : Cd) (NN L : Nat) : Prop where
  a : (c.gl < L ∧ c.gt < L ∧ c.gn < L ∧ c.gs < L) ∧ (c.hn < L ∧ c.hs < L ∧ c.ga < L ∧ c.ha < L) ∧ c.gf < L ∧ c.gk < L ∧ c.gh < L
  l : ∀ n, n < NN → c.lf n < L ∧ c.lk n < L ∧ c.lh n < L
section
variable {W W' : World} {c : Cd} {P : Pm} {x : CS} (K : CoAt W c P x)
include K
theorem CoAt.clo : CLo c P.NN W.heap.size := by
  obtain ⟨s1, s2, s3, s4, s5⟩ := K.s.sz
  obtain ⟨b1, b2, b3, b4⟩ := K.d.fg.blocks
  refine ⟨⟨⟨lt_of_blk K.s.lk_, s1, s2, s3⟩, ⟨s4, K.d.sp.lt, b3, s5⟩, b1, b2, b4⟩, fun n hn => ?_⟩
  obtain ⟨d1, d2, _, d4⟩ := (K.d.fl n hn).blocks
  exact ⟨d1, d2, d4⟩
theorem CoAt.base {L : Nat} (hl : CLo c P.NN L) (hb : Below L W W') : CoAt W' c P x := by
  obtain ⟨⟨a1, a2, a3, a4⟩, ⟨a5, a6, a7, a8⟩, a9, a10, a11⟩ := hl.a
  have cm : ∀ (g i : Nat), g < L → W'.cell? ⟨g, i, none⟩ = W.cell? ⟨g, i, none⟩ := fun g i h1 => by
    unfold World.cell?
    rw [hb.block g h1]
  have hs := hb.size
  have hsz := K.s.sz
  exact ⟨⟨(hb.block _ a1).trans K.s.lk_, (cm _ _ a2).trans K.s.t1, (cm _ _ a2).trans K.s.t2, (cm _ _ a2).trans K.s.t6, (cm _ _ a2).trans K.s.t7, fun k hk => (cm _ _ a3).trans (K.s.rn k hk), fun k hk => (cm _ _ a4).trans (K.s.rs k hk), fun n hn => ⟨(cm _ _ a5).trans (K.s.nr n hn).1, (cm _ _ a5).trans (K.s.nr n hn).2⟩, K.s.c0, K.s.cl, K.s.ch, by omega, fun b h => K.s.fresh b (by omega)⟩,
    ⟨K.d.ar.upd (S := []) (Upd.of_below hb) a7 a8 (by simp) (by simp), K.d.sp.of_blk (hb.block _ a6), fl_base K.d.fg hb a9 a10 a7 a8 a11, fun n hn => fl_base (K.d.fl n hn) hb (hl.l n hn).1 (hl.l n hn).2.1 a7 a8 (hl.l n hn).2.2⟩, K.len⟩
set_option maxRecDepth 100000 in
theorem counted_ask (D : Dj P) {m : Nat} (H : CI P x m) (hm : m ≤ 100000) (i : Int) : Calls Tryz.prog 179 #[couV c.gl, .int .i64 i, .bool false] W fun e w' => e = .returned (.bool (turnB x.S i 0)) ∧ CoAt w' c P (askC P x i) ∧ Kp c.col W w' := by
  have hb := below_new W (.cells #[.iface 143 (.pointer (some ⟨c.gl, 0, none⟩))] 147)
  have HA := Lib.hid (ask_co (K.same hb) D H hm i)
  have HB := Lib.hid (Kp.of_below (col := c.col) hb)
  have h1 := fun W => cmfAsk c.gl W
  have h2 := fun a W => ccfAsk a W
  clear K D H hb
  unfold couV
  unfold Aft at HA
  generalize turnB x.S i 0 = b at *
  generalize askC P x i = x2 at *
  go_enter Tryz.func179, Tryz.ntmps179
  go_wp2_with fail
  refine HA.out.mono ?_
  rintro e w2 ⟨rfl, hk, hm2⟩
  have HK2 := Lib.hid hk
  have HM2 := Lib.hid (HB.out.trans hm2)
  clear hk hm2
  go_wp2_with fail
  go_ret
  exact ⟨rfl, HK2.out, HM2.out⟩
end
def colS (col : Nat → Nat) (L : Nat) : List Nat := (List.range L).filter fun q => decide (col q ≠ 0)
theorem mem_colS {col : Nat → Nat} {L q : Nat} : q ∈ colS col L ↔ q < L ∧ col q ≠ 0 := by
  unfold colS
  rw [List.mem_filter, List.mem_range, decide_eq_true_iff]
theorem Kp.mod {col : Nat → Nat} {L : Nat} {a w : World} (h : Kp col a w) (hf : ∀ q, L ≤ q → col q = 0) : Mod (colS col L) a w :=
  ⟨h.os, h.tape, h.output, h.size, fun k hk hn => h.block k hk (by
    rcases Nat.lt_or_ge k L with h1 | h1
    · exact Classical.byContradiction fun h2 => hn (mem_colS.2 ⟨h1, h2⟩)
    · exact hf k h1)⟩
structure CA (g : Nat) (kind : Int) (c : Cd) (P : Pm) (m0 L : Nat) (k : Nat) (W : World) (x : CS) : Prop where
  lk : LkB W g kind (P.T : Int) 147 (couV c.gl)
  co : CoAt W c P x
  ci : CI P x (m0 + k)
  k6 : kind = 6
  ng : c.col g = 0
  lo : g < L ∧ CLo c P.NN L
  fr : ∀ q, L ≤ q → c.col q = 0
  sz : L ≤ W.heap.size
theorem rd_low {kind : Int} (h : kind < 11) (s : Sp) : rdS kind s = false := by
  unfold rdS shK
  rw [show decide (11 ≤ kind) = false from decide_eq_false (by omega)]
  simp
section
variable {g : Nat} {kind : Int} {c : Cd} {P : Pm} {m0 L k : Nat} {W W' : World} {x : CS}
theorem CA.keep (K : CA g kind c P m0 L k W x) (hb : Below L W W') : CA g kind c P m0 L k W' x :=
  ⟨(hb.block _ K.lo.1).trans K.lk, CoAt.base K.co K.lo.2 hb, K.ci, K.k6, K.ng, K.lo, K.fr, Nat.le_trans K.sz hb.size⟩
theorem CA.spot (K : CA g kind c P m0 L k W x) (t : Int) : Calls Tryz.prog 61 #[.pointer (some ⟨g, 0, none⟩), .int .i64 t] W fun e w' => e = .returned (vSp (spOf x.S t)) ∧ Below W.heap.size W w' := by
  have hn : x.S.length = P.T := K.co.len
  by_cases ht : t < 0 ∨ (P.T : Int) ≤ t
  · rw [spOf_out (by rw [hn]; exact ht)]
    exact Spot_out g kind P.T _ _ W K.lk t ht
  · refine Spot_gen g kind P.T _ _ W K.lk _ _ ccSpot (cmSpot c.gl) t (by omega) (by omega) (spOf x.S t) fun V hb => ?_
    exact spot_co (K.co.same hb) t
theorem CA.acts (K : CA g kind c P m0 L k W x) {x' : CS} (hk : CoAt W' c P x') (ho : CI P x' (m0 + k + 1)) (hm : Kp c.col W W') : CA g kind c P m0 L (k + 1) W' x' :=
  ⟨hm.blk K.lk K.ng, hk, ho, K.k6, K.ng, K.lo, K.fr, Nat.le_trans K.sz hm.size⟩
theorem li_co (D : Dj P) (hB : Bud.right P.B = true) (hm0 : m0 ≤ 50000) : LI g (ldC P) (fun k W x => CA g kind c P m0 L k W x) (fun b => b = false) (colS c.col L) L := by
  refine ⟨fun q hq => (mem_colS.1 hq).1, fun k W x K => ?_, fun k W W' x K hb => K.keep hb, fun k W x K => threads_lk _ _ _ _ _ W K.lk, fun k W x t K => ?_, fun k W x t K => ?_, fun k W x t b hk hb K h0 h1 => ?_, fun k W x t hk K h0 h1 => ?_, fun k W x t hk K h0 h1 _ => ?_, fun k W x t K h0 h1 => ?_⟩
  · exact ⟨K.lk, K.co, CI.up D K.ci (Nat.le_succ _), K.k6, K.ng, K.lo, K.fr, K.sz⟩
  · exact State_gen g W t _ fun V hb => (K.keep (hb.mono K.sz)).spot t
  · have := Reads_gen g kind P.T _ _ W K.lk t _ fun V hb => (K.keep (hb.mono K.sz)).spot t
    rw [rd_low (by have := K.k6; omega)] at this
    exact this
  · subst hb
    exact (Ask_gen g kind P.T _ _ W K.lk _ _ ccAsk (cmAsk c.gl) t false h0 h1 _ (fun w' => CoAt w' c P _ ∧ Kp c.col W w') (counted_ask K.co D K.ci (by omega) t)).mono fun e w' ⟨e1, e2, e3⟩ => ⟨e1, K.acts e2 (CI.ask D K.ci t) e3, Kp.mod e3 K.fr⟩
  · exact (Leave_gen g kind P.T _ _ W K.lk _ _ ccLeave (cmLeave c.gl) t h0 h1 _ (fun w' => CoAt w' c P _ ∧ Kp c.col W w') (leave_co K.co t)).mono fun e w' ⟨e1, e2, e3⟩ => ⟨e1, K.acts e2 (CI.leave D K.ci t) e3, Kp.mod e3 K.fr⟩
  · exact (Step_gen g kind P.T _ _ W K.lk _ _ ccStep (cmStep c.gl) t h0 h1 _ (fun w' => CoAt w' c P _ ∧ Kp c.col W w') (step_co K.co D K.ci (by omega) hB t)).mono fun e w' ⟨e1, e2, e3⟩ => ⟨e1, K.acts e2 (CI.step D K.ci t) e3, Kp.mod e3 K.fr⟩
  · exact Count_gen g kind P.T _ _ W K.lk _ _ ccCount (cmCount c.gl) t h0 h1 _ (fun w' => Below W.heap.size W w') (count_co K.co t)
end
end Go.Proofs.YtfmiioddhpkdkaaGreat.Wo

/- Package locks: make: a flat lock; a cohort lock. -/
namespace Go.Proofs.YtfmiioddhpkdkaaGreat.Wo
open Go.RowKit Go.Proofs.YtfmiioddhpkdkaaGreat.Ara Go.Proofs.YtfmiioddhpkdkaaGreat.Tp Go.Proofs.YtfmiioddhpkdkaaGreat.Lok Go.Proofs.YtfmiioddhpkdkaaGreat.Fl Go.Proofs.YtfmiioddhpkdkaaGreat.Lk Go.Proofs.YtfmiioddhpkdkaaGreat.Co Go.Proofs.YtfmiioddhpkdkaaGreat.Cm

def NewL (W : World) (gl : Nat) (kind : Int) (T : Nat) : Prop := W.heap[gl]? = some (.cells #[.int .i64 kind, .int .i64 (T : Int), .nilIface] 115 (0, 0))
structure MkB (w : World) (x y : Value) (k0 k1 k2 k3 : Int) (W : World) : Prop where
  b : Below w.heap.size w W
  x0 : W.heap[w.heap.size]? = some (.cells #[x, y] 24 (0, 0))
  x1 : W.heap[w.heap.size + 1]? = some (.cells #[.int .i64 k0, .int .i64 k1, .int .i64 k2, .int .i64 k3] 56 (0, 0))
theorem MkB.made (w : World) (x y : Value) (k0 k1 k2 k3 : Int) : MkB w x y k0 k1 k2 k3 ((w.alloc (.cells #[x, y] 24)).alloc (.cells #[.int .i64 k0, .int .i64 k1, .int .i64 k2, .int .i64 k3] 56)) := by
  have hz : (w.alloc (.cells #[x, y] 24)).heap.size = w.heap.size + 1 := by simp
  have h2 := blk_new (w.alloc (.cells #[x, y] 24)) (.cells #[.int .i64 k0, .int .i64 k1, .int .i64 k2, .int .i64 k3] 56)
  rw [hz] at h2
  exact ⟨(below_new _ _).alloc (by simp) _, (heap_alloc_old _ _ (by simp)).trans (blk_new _ _), h2⟩
theorem MkB.mod {w W V : World} {x y : Value} {k0 k1 k2 k3 : Int} (h : MkB w x y k0 k1 k2 k3 W) {S : List Nat} (hm : Mod S W V) (hS : ∀ q ∈ S, q < w.heap.size) : (V.heap[w.heap.size]? = some (.cells #[x, y] 24 (0, 0))) ∧ V.heap[w.heap.size + 1]? = some (.cells #[.int .i64 k0, .int .i64 k1, .int .i64 k2, .int .i64 k3] 56 (0, 0)) :=
  ⟨hm.blk h.x0 (fun e => by have := hS _ e; omega), hm.blk h.x1 (fun e => by have := hS _ e; omega)⟩
theorem hD3x {gl ga ha : Nat} {a b : World} (h : Mod [ga, ha] a b) : Mod [gl, ga, ha] a b := ⟨h.os, h.tape, h.output, h.size, fun k hk hn => h.block k hk (fun e => hn (List.mem_cons_of_mem _ e))⟩
section
variable (p t : List Int) (A B : Option Addr) (c d : Nat) (w : World) (gl ga ha : Nat) (σ : Ar) (kg kl par bud : Int)
set_option maxRecDepth 100000 in
theorem make_flat (kind : Int) (T : Nat) (hk : 1 ≤ kind ∧ kind ≤ 5) (hL : NewL w gl kind T) (hA : ArAt w ga ha σ) (hlt : ha < w.heap.size) (hne : gl ≠ ga ∧ gl ≠ ha) (O : mayK kind T par) (hr : σ.t + sizeK kind T par ≤ σ.ws.length) (hw : σ.ws.length ≤ 4096) (ho : σ.ops ≤ 1000) :
    Calls Tryz.prog 58 #[.pointer (some ⟨gl, 0, none⟩), .pointer (some ⟨ga, 0, none⟩), (.agg #[.slice A p.length c, .slice B t.length d]), (.agg #[.int .i64 kg, .int .i64 kl, .int .i64 par, .int .i64 bud])] w fun e w' => e = .returned (.int .i64 0) ∧ ∃ gf gk gh, LkB w' gl kind T 155 (aloV gf) ∧ FLAt w' gf gk ga ha gh (pkK kind par (σ.t + 1)) (tak kind T par σ).1 (tak kind T par σ).2 ∧ (w.heap.size ≤ gf ∧ w.heap.size ≤ gk ∧ w.heap.size ≤ gh) ∧ Mod [gl, ga, ha] w w' := by
  have hlg := hA.lt
  have hgl : gl < w.heap.size := lt_of_blk hL
  have e6 := ibeq_no (show kind ≠ 6 by omega)
  have e7 := ibeq_no (show kind ≠ 7 by omega)
  have e8 := ibeq_no (show kind ≠ 8 by omega)
  have e9 := ibeq_no (show kind ≠ 9 by omega)
  have e10 := ibeq_no (show kind ≠ 10 by omega)
  have e11 := ibeq_no (show kind ≠ 11 by omega)
  have e12 := ibeq_no (show kind ≠ 12 by omega)
  have e13 := ibeq_no (show kind ≠ 13 by omega)
  have HM0 := Lib.hid (MkB.made w (.slice A p.length c) (.slice B t.length d) kg kl par bud)
  generalize hW1 : (w.alloc (.cells #[.slice A p.length c, .slice B t.length d] 24)).alloc (.cells #[.int .i64 kg, .int .i64 kl, .int .i64 par, .int .i64 bud] 56) = W1 at *
  have HL1 := Lib.hid ((Mod.of_below (S := []) HM0.out.b).blk hL (by simp))
  have hz1 := HM0.out.b.size
  have hA1 := hA.mod (S := []) (Mod.of_below HM0.out.b) (by simp) (by simp)
  have HNF := Lib.hid (new_flat kind T par O ga ha σ W1.drew (show ArAt W1.drew ga ha σ from hA1) (show ha < W1.drew.heap.size by show ha < W1.heap.size; omega) hr hw (by omega))
  have i0 := blk_cell HL1.out 0 (by simp)
  simp only [List.getElem_toArray, List.getElem_cons_zero, List.getElem_cons_succ] at i0
  clear hL hA O hr hA1 hk
  go_enter Tryz.func58, Tryz.ntmps58
  go_wp2_with fail
  clear hW1
  go_upto_region 4 with fail
  have HL2 := Lib.hid (show NewL W1.drew gl kind T from HL1.out)
  have HM2 := Lib.hid (show W1.drew.heap[w.heap.size + 1]? = some (.cells #[.int .i64 kg, .int .i64 kl, .int .i64 par, .int .i64 bud] 56 (0, 0)) from HM0.out.x1)
  have HB2 := Lib.hid (show Below w.heap.size w W1.drew from Below.drew HM0.out.b)
  have hz2 : w.heap.size + 1 < W1.drew.heap.size := lt_of_blk HM2.out
  clear HL1 HM0 i0
  have F2 := And.intro (blk_cell HL2.out 0 (by simp)) (And.intro (blk_cell HL2.out 1 (by simp)) (blk_cell HM2.out 2 (by simp)))
  simp only [List.getElem_toArray, List.getElem_cons_zero, List.getElem_cons_succ] at F2
  refine wp_region_held_drew (S := fun V => V.cell? ⟨gl, 0, none⟩ = some (.int .i64 kind) ∧ V.cell? ⟨gl, 1, none⟩ = some (.int .i64 (T : Int)) ∧ V.cell? ⟨w.heap.size + 1, 2, none⟩ = some (.int .i64 par)) (by kernel_rfl) F2 (fun hHeld => ?_)
  generalize W1.drew = W2 at *
  refine tkA 0 18 (v := ?_) ?_ ?_
  rotate_left
  focus (intro w hSw; (try dsimp only at hSw); go_simp; (try with_reducible rfl))
  simp only [Act.put, List.setIfInBounds_toArray, List.set_cons_zero, List.set_cons_succ]
  refine tkA 1 19 (v := ?_) ?_ ?_
  rotate_left
  focus (intro w hSw; (try dsimp only at hSw); go_simp; (try with_reducible rfl))
  simp only [Act.put, List.setIfInBounds_toArray, List.set_cons_zero, List.set_cons_succ]
  refine tkA 2 20 (v := ?_) ?_ ?_
  rotate_left
  focus (intro w hSw; (try dsimp only at hSw); go_simp; (try with_reducible rfl))
  simp only [Act.put, List.setIfInBounds_toArray, List.set_cons_zero, List.set_cons_succ]
  refine tkA 3 21 (v := ?_) ?_ ?_
  rotate_left
  focus (intro w hSw; (try dsimp only at hSw); go_simp; (try with_reducible rfl))
  simp only [Act.put, List.setIfInBounds_toArray, List.set_cons_zero, List.set_cons_succ]
  refine tkA 4 22 (v := ?_) ?_ ?_
  rotate_left
  focus (intro w hSw; (try dsimp only at hSw); go_simp; (try with_reducible rfl))
  simp only [Act.put, List.setIfInBounds_toArray, List.set_cons_zero, List.set_cons_succ]
  refine tkA 5 23 (v := ?_) ?_ ?_
  rotate_left
  focus (intro w hSw; (try dsimp only at hSw); go_simp; (try with_reducible rfl))
  simp only [Act.put, List.setIfInBounds_toArray, List.set_cons_zero, List.set_cons_succ]
  refine tkA 6 24 (v := ?_) ?_ ?_
  rotate_left
  focus (intro w hSw; (try dsimp only at hSw); go_simp; (try with_reducible rfl))
  simp only [Act.put, List.setIfInBounds_toArray, List.set_cons_zero, List.set_cons_succ]
  refine tkA 7 25 (v := ?_) ?_ ?_
  rotate_left
  focus (intro w hSw; (try dsimp only at hSw); go_simp; (try with_reducible rfl))
  simp only [Act.put, List.setIfInBounds_toArray, List.set_cons_zero, List.set_cons_succ]
  refine tkA 8 26 (v := ?_) ?_ ?_
  rotate_left
  focus (intro w hSw; (try dsimp only at hSw); go_simp; (try with_reducible rfl))
  simp only [Act.put, List.setIfInBounds_toArray, List.set_cons_zero, List.set_cons_succ]
  refine tkA 9 27 (v := ?_) ?_ ?_
  rotate_left
  focus (intro w hSw; (try dsimp only at hSw); go_simp; (try with_reducible rfl))
  simp only [Act.put, List.setIfInBounds_toArray, List.set_cons_zero, List.set_cons_succ]
  refine tkA 10 28 (v := ?_) ?_ ?_
  rotate_left
  focus (intro w hSw; (try dsimp only at hSw); go_simp; (try with_reducible rfl))
  simp only [Act.put, List.setIfInBounds_toArray, List.set_cons_zero, List.set_cons_succ]
  refine wpAnyH_ready (rs := [11]) (by kernel_rfl) (by simp) ?_
  refine AllReadyH.cons rfl (fun K hK => ?_) AllReadyH.nil
  go_simp
  refine HNF.out.mono ?_
  rintro e W3 ⟨gf, gk, gh, rfl, hf3, hx3, hm3⟩
  have HL3 := Lib.hid (show NewL W3 gl kind T from hm3.blk HL2.out (by simp; omega))
  have HM3 := Lib.hid (hm3.blk HM2.out (by simp; omega))
  have F3 := And.intro (blk_cell HL3.out 0 (by simp)) (And.intro (blk_cell HL3.out 1 (by simp)) (blk_cell HM3.out 2 (by simp)))
  simp only [List.getElem_toArray, List.getElem_cons_zero, List.getElem_cons_succ] at F3
  have hb3 := hf3.blocks
  have HF3 := Lib.hid hf3
  have HD3 := Lib.hid hm3
  clear hf3 hm3 HNF F2
  go_simp
  refine hK.out _ _ F3 (fun hHeld => ?_)
  refine tkA 12 17 (v := ?_) ?_ ?_
  rotate_left
  focus (intro w hSw; (try dsimp only at hSw); go_simp; (try with_reducible rfl))
  simp only [Act.put, List.setIfInBounds_toArray, List.set_cons_zero, List.set_cons_succ]
  refine tkA 13 30 (v := ?_) ?_ ?_
  rotate_left
  focus (intro w hSw; (try dsimp only at hSw); go_simp; (try with_reducible rfl))
  simp only [Act.put, List.setIfInBounds_toArray, List.set_cons_zero, List.set_cons_succ]
  refine tkA 14 31 (v := ?_) ?_ ?_
  rotate_left
  focus (intro w hSw; (try dsimp only at hSw); go_simp; (try with_reducible rfl))
  simp only [Act.put, List.setIfInBounds_toArray, List.set_cons_zero, List.set_cons_succ]
  refine tkA 15 32 (v := ?_) ?_ ?_
  rotate_left
  focus (intro w hSw; (try dsimp only at hSw); go_simp; (try with_reducible rfl))
  simp only [Act.put, List.setIfInBounds_toArray, List.set_cons_zero, List.set_cons_succ]
  refine tkA 16 9 (v := ?_) ?_ ?_
  rotate_left
  focus (intro w hSw; (try dsimp only at hSw); go_simp; (try with_reducible rfl))
  simp only [Act.put, List.setIfInBounds_toArray, List.set_cons_zero, List.set_cons_succ]
  refine tkA 17 8 (v := ?_) ?_ ?_
  rotate_left
  focus (intro w hSw; (try dsimp only at hSw); go_simp; (try with_reducible rfl))
  simp only [Act.put, List.setIfInBounds_toArray, List.set_cons_zero, List.set_cons_succ]
  refine wpAnyH_done (by kernel_rfl) ?_ _
  have c2 := blk_cell HL3.out 2 (by simp)
  simp only [List.getElem_toArray, List.getElem_cons_zero, List.getElem_cons_succ] at c2
  have f2 := blk_free HL3.out 2
  have hs4 := blk_set HL3.out 2 (.iface 155 (aloV gf))
  simp only [Array.set!_eq_setIfInBounds, List.setIfInBounds_toArray, List.set_cons_zero, List.set_cons_succ] at hs4
  have HS4 := Lib.hid hs4
  have hm4 : Mod [gl] W3 (W3.setCell ⟨gl, 2, none⟩ (.iface 155 (aloV gf))) := (Mod.refl _ _).setCell (by simp) _
  have HF4 := Lib.hid (HF3.out.mod hm4 (by simp; omega) (by simp; omega) (by simp; omega) (by simp; omega) (by simp; omega))
  have HM4 := Lib.hid (show Mod [gl, ga, ha] w (W3.setCell ⟨gl, 2, none⟩ (.iface 155 (aloV gf))) from (((Mod.of_below HB2.out).trans (hD3x HD3.out)).setCell (by simp) _))
  clear hs4 hm4 HF3 HD3 HL3 HM3 F3 HL2 HM2
  unfold aloV at HS4 HF4 HM4
  go_wp2_with fail
  go_ret
  exact ⟨rfl, gf, gk, gh, HS4.out, HF4.out, ⟨by omega, by omega, by omega⟩, HM4.out⟩
end
end Go.Proofs.YtfmiioddhpkdkaaGreat.Wo

/- Package world: New, by what locks.New does. -/
namespace Go.Proofs.YtfmiioddhpkdkaaGreat.Wo
open Go.RowKit Go.Proofs.YtfmiioddhpkdkaaGreat.Ara Go.Proofs.YtfmiioddhpkdkaaGreat.Tp Go.Proofs.YtfmiioddhpkdkaaGreat.Lok Go.Proofs.YtfmiioddhpkdkaaGreat.Lk

set_option maxRecDepth 100000 in
theorem wnew_gen (p t : List Int) (A B : Option Addr) (c d : Nat) (w : World) (hck : chk p t = 0) (hs : Sl w w.heap.size A (p.flatMap decI)) (ht : Sl w w.heap.size B (t.flatMap decI)) (kind kg kl par bud : Int) (R : Nat → World → Prop)
    (HL : ∀ W, Below w.heap.size w W → ArAt W (w.heap.size + 1 + 1 + 1) (w.heap.size + 1 + 1) (Ar.fresh 4096) → w.heap.size + 1 + 1 + 1 < W.heap.size → Calls Tryz.prog 38 #[.pointer (some ⟨w.heap.size + 1 + 1 + 1, 0, none⟩), (.agg #[.slice A p.length c, .slice B t.length d]), (.agg #[.int .i64 kind, .int .i64 kg, .int .i64 kl, .int .i64 par, .int .i64 bud])] W fun e w' => ∃ gl, e = .returned (.tuple #[.pointer (some ⟨gl, 0, none⟩), .int .i64 0]) ∧ R gl w' ∧ Mod [w.heap.size + 1 + 1 + 1, w.heap.size + 1 + 1] W w') :
    Calls Tryz.prog 18 #[(.agg #[.slice A p.length c, .slice B t.length d]), (.agg #[.int .i64 kind, .int .i64 kg, .int .i64 kl, .int .i64 par, .int .i64 bud])] w fun e w' => ∃ gw gt gl W2, e = .returned (.tuple #[.pointer (some ⟨gw, 0, none⟩), .int .i64 0]) ∧ WoB w' gw (w.heap.size + 1 + 1 + 1) gt gl (shK kind) ∧ R gl W2 ∧ Below W2.heap.size W2 w' ∧ W2.heap.size ≤ gw ∧ gw < w'.heap.size ∧ Below w.heap.size w w' := by
  obtain ⟨l1, l2, l3, l4⟩ := chk_len hck
  have HS := Lib.hid hs
  have HT := Lib.hid ht
  have HLN := Lib.hid HL
  clear hs ht HL
  go_enter Tryz.func18, Tryz.ntmps18
  go_wp2_with fail
  have hb1 := below_new w (.cells #[.slice A p.length c, .slice B t.length d] 24)
  have hx1 := blk_new w (.cells #[.slice A p.length c, .slice B t.length d] 24)
  have hz1 : (w.alloc (.cells #[.slice A p.length c, .slice B t.length d] 24)).heap.size = w.heap.size + 1 := by simp
  generalize w.alloc (.cells #[.slice A p.length c, .slice B t.length d] 24) = W1 at *
  have hb2 := below_new W1 (.cells #[.int .i64 kind, .int .i64 kg, .int .i64 kl, .int .i64 par, .int .i64 bud] 58)
  have hx2 := blk_new W1 (.cells #[.int .i64 kind, .int .i64 kg, .int .i64 kl, .int .i64 par, .int .i64 bud] 58)
  have hz2 : (W1.alloc (.cells #[.int .i64 kind, .int .i64 kg, .int .i64 kl, .int .i64 par, .int .i64 bud] 58)).heap.size = w.heap.size + 1 + 1 := by simp [hz1]
  generalize W1.alloc (.cells #[.int .i64 kind, .int .i64 kg, .int .i64 kl, .int .i64 par, .int .i64 bud] 58) = W2 at *
  have HB2 := Lib.hid (hb1.trans (hb2.mono hb1.size))
  have HX1 := Lib.hid ((Mod.of_below (S := []) hb2).blk hx1 (by simp))
  rw [hz1] at hx2
  have HX2 := Lib.hid hx2
  clear hb1 hx1 hb2 hx2
  refine (new_in 4096 W2).mono ?_
  rintro e W3 ⟨rfl, ha3, hz3, hb3⟩
  rw [hz2] at ha3 hz3
  have HB3 := Lib.hid (HB2.out.trans (hb3.mono HB2.out.size))
  have HY1 := Lib.hid ((Mod.of_below (S := []) hb3).blk HX1.out (by simp))
  have HY2 := Lib.hid ((Mod.of_below (S := []) hb3).blk HX2.out (by simp))
  have HL3 := Lib.hid (HLN.out W3 HB3.out ha3 (by omega))
  rw [hz2]
  clear hb3 ha3 HX1 HX2 HB2 HLN hz2 hz1
  have b0 := blk_cell HY1.out 0 (by simp)
  have b1 := blk_cell HY1.out 1 (by simp)
  have s0 := blk_cell HY2.out 0 (by simp)
  have s1 := blk_cell HY2.out 1 (by simp)
  have s2 := blk_cell HY2.out 2 (by simp)
  have s3 := blk_cell HY2.out 3 (by simp)
  have s4 := blk_cell HY2.out 4 (by simp)
  simp only [List.getElem_toArray, List.getElem_cons_zero, List.getElem_cons_succ] at b0 b1 s0 s1 s2 s3 s4
  go_wp2_with fail
  refine HL3.out.mono ?_
  rintro e W4 ⟨gl, rfl, hr4, hm4⟩
  have hz4 := hm4.size
  have HM4 := Lib.hid hm4
  have HR4 := Lib.hid hr4
  have HZ1 := Lib.hid (hm4.blk HY1.out (by simp <;> omega))
  have HZ2 := Lib.hid (hm4.blk HY2.out (by simp <;> omega))
  have HB4 := Lib.hid (show Below w.heap.size w W4 from HB3.out.trans (hm4.below (by omega) (by simp <;> omega)))
  clear b0 b1 s0 s1 s2 s3 s4 hm4 hr4 HY1 HY2 HL3 HB3 HM4
  have b0 := blk_cell HZ1.out 0 (by simp)
  have b1 := blk_cell HZ1.out 1 (by simp)
  simp only [List.getElem_toArray, List.getElem_cons_zero, List.getElem_cons_succ] at b0 b1
  have HNP := Lib.hid (Pa.pnew_ok p t A B c d W4 hck ((Sl.below HS.out HB4.out).more HB4.out.size) ((Sl.below HT.out HB4.out).more HB4.out.size))
  go_wp2_with fail
  refine HNP.out.mono ?_
  rintro e W5 ⟨gt, pb, tb, cA, cB, rfl, htb, rpb, rtb, ⟨o1, o2, o3, o4⟩, b5⟩
  have hz5 := b5.size
  have HB5 := Lib.hid b5
  have HX5 := Lib.hid ((Mod.of_below (S := []) b5).blk HZ2.out (by simp))
  clear b5 htb rpb rtb b0 b1 HNP HZ1 HZ2
  have s0 := blk_cell HX5.out 0 (by simp)
  simp only [List.getElem_toArray, List.getElem_cons_zero, List.getElem_cons_succ] at s0
  have HSH := Lib.hid (fun W => shares_any kind W)
  go_wp2_with fail
  refine (HSH.out _).mono ?_
  rintro e wx ⟨rfl, hwx⟩
  obtain rfl := hwx.symm
  go_wp2_with fail
  go_ret2
  have hb6 := below_new W5 (.cells #[.pointer (some ⟨w.heap.size + 1 + 1 + 1, 0, none⟩), .pointer (some ⟨gt, 0, none⟩), .pointer (some ⟨gl, 0, none⟩), .bool (shK kind)] 78)
  exact ⟨_, gt, gl, W4, rfl, blk_new _ _, HR4.out, HB5.out.trans (hb6.mono hz5), hz5, by simp, HB4.out.trans ((HB5.out.trans (hb6.mono hz5)).mono HB4.out.size)⟩
end Go.Proofs.YtfmiioddhpkdkaaGreat.Wo

/- The theorems' helpers: spec: a lock of any kind that may be, out of four numbers. -/
namespace Go.Proofs.YtfmiioddhpkdkaaGreat.Tq
open Go.RowKit Go.Proofs.YtfmiioddhpkdkaaGreat.Ara

def kgQ (n : Int) : Int := 1 + n % 5
def spV (n0 n1 n2 n3 : Int) : Value := .agg #[.int .i64 (1 + n3 % 13), .int .i64 (kgQ n0), .int .i64 (kgQ n1), .int .i64 (1 + n2 / 4 % 4), .int .i64 (n2 % 4)]
set_option maxRecDepth 100000 in
set_option maxHeartbeats 4000000 in
theorem spec_any (n0 n1 n2 n3 : Int) (h0 : 0 ≤ n0 ∧ n0 ≤ 255) (h1 : 0 ≤ n1 ∧ n1 ≤ 255) (h2 : 0 ≤ n2 ∧ n2 ≤ 255) (h3 : 0 ≤ n3 ∧ n3 ≤ 255) (w : World) :
    Calls Tryz.prog 14 #[.agg #[.int .u8 n0, .int .u8 n1, .int .u8 n2, .int .u8 n3]] w fun e w' => e = .returned (spV n0 n1 n2 n3) ∧ Below w.heap.size w w' := by
  unfold spV kgQ
  have m0 : 0 ≤ n3 % 13 := by omega
  have m1 : n3 % 13 < 13 := by omega
  have m2 : 0 ≤ n0 % 5 := by omega
  have m3 : n0 % 5 < 5 := by omega
  have m4 : 0 ≤ n1 % 5 := by omega
  have m5 : n1 % 5 < 5 := by omega
  have m6 : 0 ≤ n2 / 4 := by omega
  have m7 : n2 / 4 ≤ 63 := by omega
  have m8 : 0 ≤ n2 / 4 % 4 := by omega
  have m9 : n2 / 4 % 4 < 4 := by omega
  have p0 : 0 ≤ n2 % 4 := by omega
  have p1 : n2 % 4 < 4 := by omega
  go_enter Tryz.func14, Tryz.ntmps14
  go_wp2_with fail
  exact bodyPost_ret (v := .agg #[.int .i64 (1 + n3 % 13), .int .i64 (1 + n0 % 5), .int .i64 (1 + n1 % 5), .int .i64 (1 + n2 / 4 % 4), .int .i64 (n2 % 4)]) (by simp [results, Tryz.results14, go_sem]) rfl ⟨rfl, (below_new _ _).alloc (by simp) _⟩
end Go.Proofs.YtfmiioddhpkdkaaGreat.Tq

/- Package locks: make: a cohort lock. -/
namespace Go.Proofs.YtfmiioddhpkdkaaGreat.Wo
open Go.RowKit Go.Proofs.YtfmiioddhpkdkaaGreat.Ara Go.Proofs.YtfmiioddhpkdkaaGreat.Tp Go.Proofs.YtfmiioddhpkdkaaGreat.Lok Go.Proofs.YtfmiioddhpkdkaaGreat.Fl Go.Proofs.YtfmiioddhpkdkaaGreat.Lk Go.Proofs.YtfmiioddhpkdkaaGreat.Co Go.Proofs.YtfmiioddhpkdkaaGreat.Cm

set_option maxRecDepth 100000 in
theorem make_co (p t : List Int) (A B : Option Addr) (c d : Nat) (w : World) (hck : chk p t = 0) (hs : Sl w w.heap.size A (p.flatMap decI)) (ht : Sl w w.heap.size B (t.flatMap decI)) (gl ga ha : Nat) (σ : Ar) (kg kl par bud : Int)
    (hL : NewL w gl 6 t.length) (hA : ArAt w ga ha σ) (hlt : ha < w.heap.size) (hne : gl ≠ ga ∧ gl ≠ ha ∧ ga ≠ ha) (O : (nwOf p t kg kl par bud).Ok) (hB : Bud.right bud = true) (hr : (nwOf p t kg kl par bud).tN σ.t (lvs p).length ≤ σ.ws.length) (hw : σ.ws.length ≤ 4096) (ho : σ.ops ≤ 1000) :
    Calls Tryz.prog 58 #[.pointer (some ⟨gl, 0, none⟩), .pointer (some ⟨ga, 0, none⟩), (.agg #[.slice A p.length c, .slice B t.length d]), (.agg #[.int .i64 kg, .int .i64 kl, .int .i64 par, .int .i64 bud])] w fun e w' => e = .returned (.int .i64 0) ∧ ∃ cd : Cd, LkB w' gl 6 t.length 147 (couV cd.gl) ∧ CoAt w' cd ((nwOf p t kg kl par bud).pm σ) ((nwOf p t kg kl par bud).st σ) ∧ cd.col gl = 0 ∧ (∀ x, x < w.heap.size → x ≠ ga → x ≠ ha → cd.col x = 0) ∧ Mod [gl, ga, ha] w w' := by
  have hlg := hA.lt
  have hgl : gl < w.heap.size := lt_of_blk hL
  have HM0 := Lib.hid (MkB.made w (.slice A p.length c) (.slice B t.length d) kg kl par bud)
  generalize hW1 : (w.alloc (.cells #[.slice A p.length c, .slice B t.length d] 24)).alloc (.cells #[.int .i64 kg, .int .i64 kl, .int .i64 par, .int .i64 bud] 56) = W1 at *
  have HL1 := Lib.hid ((Mod.of_below (S := []) HM0.out.b).blk hL (by simp))
  have hz1 := HM0.out.b.size
  have hA1 := hA.mod (S := []) (Mod.of_below HM0.out.b) (by simp) (by simp)
  have HNC := Lib.hid (new_co p t A B c d W1 hck ((Sl.below hs HM0.out.b).more hz1) ((Sl.below ht HM0.out.b).more hz1) ga ha σ hA1 (by omega) hne.2.2 kg kl par bud O hB hr hw ho)
  have i0 := blk_cell HL1.out 0 (by simp)
  have x0 := blk_cell HM0.out.x0 0 (by simp)
  have x1 := blk_cell HM0.out.x0 1 (by simp)
  have y0 := blk_cell HM0.out.x1 0 (by simp)
  have y1 := blk_cell HM0.out.x1 1 (by simp)
  have y2 := blk_cell HM0.out.x1 2 (by simp)
  have y3 := blk_cell HM0.out.x1 3 (by simp)
  simp only [List.getElem_toArray, List.getElem_cons_zero, List.getElem_cons_succ] at i0 x0 x1 y0 y1 y2 y3
  clear hL hA O hr hA1 hs ht hB
  go_enter Tryz.func58, Tryz.ntmps58
  go_wp2_with fail
  refine HNC.out.mono ?_
  unfold NewC
  rintro e W3 ⟨cd, rfl, hco, ⟨g1, g2, hlw⟩, hcol, hm3⟩
  have hz3 := hm3.size
  have HL3 := Lib.hid (hm3.blk HL1.out (by simp; omega))
  have c2 := blk_cell HL3.out 2 (by simp)
  simp only [List.getElem_toArray, List.getElem_cons_zero, List.getElem_cons_succ] at c2
  have f2 := blk_free HL3.out 2
  have hs4 := blk_set HL3.out 2 (.iface 147 (couV cd.gl))
  simp only [Array.set!_eq_setIfInBounds, List.setIfInBounds_toArray, List.set_cons_zero, List.set_cons_succ] at hs4
  have HS4 := Lib.hid hs4
  have hm4 : Mod [gl] W3 (W3.setCell ⟨gl, 2, none⟩ (.iface 147 (couV cd.gl))) := (Mod.refl _ _).setCell (by simp) _
  have HF4 := Lib.hid (hco.low hlw hm4 (fun q hq => by simp at hq; subst hq; exact ⟨by omega, by rw [g1]; exact hne.1, by rw [g2]; exact hne.2.1⟩))
  have HM4 := Lib.hid (show Mod [gl, ga, ha] w (W3.setCell ⟨gl, 2, none⟩ (.iface 147 (couV cd.gl))) from (((Mod.of_below HM0.out.b).trans (hD3x hm3)).setCell (by simp) _))
  have HC := Lib.hid (show cd.col gl = 0 ∧ ∀ x, x < w.heap.size → x ≠ ga → x ≠ ha → cd.col x = 0 from ⟨hcol gl (by omega) hne.1 hne.2.1, fun x hx => hcol x (by omega)⟩)
  clear hs4 hm4 hco g1 g2 hlw hcol hm3 HM0 HL3 HL1 HNC i0 x0 x1 y0 y1 y2 y3
  unfold couV at HS4 HF4 HM4
  go_wp2_with fail
  go_ret
  exact ⟨rfl, cd, HS4.out, HF4.out, HC.out.1, HC.out.2, HM4.out⟩
end Go.Proofs.YtfmiioddhpkdkaaGreat.Wo

/- Top's awake: two threads of a cohort lock, one behind the other: the plain law. -/
namespace Go.Proofs.YtfmiioddhpkdkaaGreat.Wo
open Go.RowKit Go.Proofs.YtfmiioddhpkdkaaGreat.Tp Go.Proofs.YtfmiioddhpkdkaaGreat.Ara Go.Proofs.YtfmiioddhpkdkaaGreat.Lok Go.Proofs.YtfmiioddhpkdkaaGreat.Fl Go.Proofs.YtfmiioddhpkdkaaGreat.Co Go.Proofs.YtfmiioddhpkdkaaGreat.Cm Go.Proofs.YtfmiioddhpkdkaaGreat.Ga Go.Proofs.YtfmiioddhpkdkaaGreat.Wf

def nwW : Nw := nwOf twoP twoT 2 4 1 1
def pmW : Pm := nwW.pm (Ar.fresh 4096)
def xW0 : CS := nwW.st (Ar.fresh 4096)
def pkW : List (Int × Int) := [(0, 1), (0, 0), (0, 0), (0, 0), (0, 0), (0, 0), (0, 0), (0, 0), (0, 2), (3, 1), (0, 0), (0, 0), (0, 0), (0, 0), (0, 0), (0, 0), (3, 0), (3, 0), (3, 0), (3, 0), (3, 0), (3, 0), (3, 0)]
def wantW : List Int := [1, 2, 3, 1, 4, 2]
def awk : Nat → CS
  | 0 => xW0
  | i + 1 => (wact (ldC pmW) (awk i) (pkW.getD i (0, 0)).1 (pkW.getD i (0, 0)).2).2
def awE (i : Nat) : Ev4 := (wact (ldC pmW) (awk i) (pkW.getD i (0, 0)).1 (pkW.getD i (0, 0)).2).1
def awC : Nat → Nat
  | 0 => 0
  | i + 1 => if (awE i).1 = 0 then awC i else awC i + 1
def awB (i : Nat) : Bool := decide ((awE i).1 = 0) || (decide (awC i < 6) && decide ((awE i).1 = wantW.getD (awC i) 0))
set_option maxRecDepth 100000 in
theorem aw_all : (List.range 23).all awB = true := by kernel_rfl
set_option maxRecDepth 100000 in
theorem aw_end : awC 23 = 6 := by kernel_rfl
theorem aw_at {i : Nat} (h : i < 23) : (awE i).1 = 0 ∨ (awC i < 6 ∧ (awE i).1 = wantW.getD (awC i) 0) := by
  have h1 := List.all_eq_true.1 aw_all i (List.mem_range.2 h)
  unfold awB at h1
  rw [Bool.or_eq_true, Bool.and_eq_true, decide_eq_true_iff, decide_eq_true_iff, decide_eq_true_iff] at h1
  exact h1
theorem hckW : chk twoP twoT = 0 := by decide
theorem okW : nwW.Ok := nw_ok hckW (by decide) (by decide) (by decide) (by decide)
theorem brW : Bud.right pmW.B = true := by decide
end Go.Proofs.YtfmiioddhpkdkaaGreat.Wo

/- Package world: New, of a flat lock; of a cohort lock. -/
namespace Go.Proofs.YtfmiioddhpkdkaaGreat.Wo
open Go.RowKit Go.Proofs.YtfmiioddhpkdkaaGreat.Ara Go.Proofs.YtfmiioddhpkdkaaGreat.Tp Go.Proofs.YtfmiioddhpkdkaaGreat.Lok Go.Proofs.YtfmiioddhpkdkaaGreat.Fl Go.Proofs.YtfmiioddhpkdkaaGreat.Lk Go.Proofs.YtfmiioddhpkdkaaGreat.Co Go.Proofs.YtfmiioddhpkdkaaGreat.Cm

def NewW (kind : Int) (R : Nat → Nat → World → Prop) (w : World) (e : Ending) (w' : World) : Prop :=
  ∃ gw ga gt gl W2, e = .returned (.tuple #[.pointer (some ⟨gw, 0, none⟩), .int .i64 0]) ∧ WoB w' gw ga gt gl (shK kind) ∧ R ga gl W2 ∧ Below W2.heap.size W2 w' ∧ W2.heap.size ≤ gw ∧ gw < w'.heap.size ∧ Below w.heap.size w w'
theorem mod_fresh {gl ga ha : Nat} {w W V : World} (hb : Below w.heap.size w W) (hg : w.heap.size ≤ gl) (hm : Mod [gl, ga, ha] W V) : Mod [ga, ha] w V :=
  ⟨hm.os.trans hb.os, hm.tape.trans hb.tape, hm.output.trans hb.output, Nat.le_trans hb.size hm.size, fun k hk hn => (hm.block k (Nat.lt_of_lt_of_le hk hb.size) (fun h => by
    rcases List.mem_cons.1 h with rfl | h
    · omega
    · exact hn h)).trans (hb.block k hk)⟩
def RF (B : Nat) (kind par : Int) (T : Nat) (ga gl : Nat) (W : World) : Prop :=
  ∃ gf gk gh ha, LkB W gl kind T 155 (aloV gf) ∧ FLAt W gf gk ga ha gh (pkK kind par 1) (tak kind T par (Ar.fresh 4096)).1 (tak kind T par (Ar.fresh 4096)).2 ∧ (gl ≠ ga ∧ gl ≠ ha ∧ gl ≠ gh) ∧ ha < W.heap.size ∧ B ≤ ga ∧ B ≤ ha ∧ B ≤ gh
def RC (B : Nat) (q : Nw) (_ga gl : Nat) (W : World) : Prop :=
  ∃ cd : Cd, LkB W gl 6 q.T 147 (couV cd.gl) ∧ CoAt W cd (q.pm (Ar.fresh 4096)) (q.st (Ar.fresh 4096)) ∧ cd.col gl = 0 ∧ ∀ x, x < B → cd.col x = 0
theorem fresh_len : (Ar.fresh 4096).ws.length = 4096 := by
  show (List.replicate 4096 (0 : Int)).length = 4096
  exact List.length_replicate
section
variable (B0 : Nat) (p t : List Int) (A B : Option Addr) (c d : Nat) (w : World) (hB0 : B0 ≤ w.heap.size) (hck : chk p t = 0) (hs : Sl w w.heap.size A (p.flatMap decI)) (ht : Sl w w.heap.size B (t.flatMap decI)) (kg kl par bud : Int)
include hB0 hck hs ht
theorem wnew_flat (kind : Int) (hk : 2 ≤ kind ∧ kind ≤ 5) (hp : 1 ≤ par ∧ par ≤ 32) : Calls Tryz.prog 18 #[(.agg #[.slice A p.length c, .slice B t.length d]), (.agg #[.int .i64 kind, .int .i64 kg, .int .i64 kl, .int .i64 par, .int .i64 bud])] w (NewW kind (RF B0 kind par t.length) w) := by
  obtain ⟨l1, l2, l3, l4⟩ := chk_len hck
  have O : mayK kind t.length par := ⟨by omega, by omega, fun _ => by omega, fun _ => by omega⟩
  have hnm : Named kind := by
    have : kind = 2 ∨ kind = 3 ∨ kind = 4 ∨ kind = 5 := by omega
    rcases this with rfl | rfl | rfl | rfl
    · exact named_2
    · exact named_3
    · exact named_4
    · exact named_5
  have hsz := size_le O hp.2
  refine (wnew_gen p t A B c d w hck hs ht kind kg kl par bud (fun gl W => RF B0 kind par t.length (w.heap.size + 1 + 1 + 1) gl W) fun W hb ha hlt => ?_).mono fun e w' ⟨gw, gt, gl, W2, e1, e2, e3, e4⟩ => ⟨gw, _, gt, gl, W2, e1, e2, e3, e4⟩
  have hz := hb.size
  refine (lnew_gen p t A B c d W hck ((Sl.below hs hb).more hz) ((Sl.below ht hb).more hz) kind hnm (w.heap.size + 1 + 1 + 1) kg kl par bud (fun gl V w' => ∃ gf gk gh, LkB w' gl kind t.length 155 (aloV gf) ∧ FLAt w' gf gk (w.heap.size + 1 + 1 + 1) (w.heap.size + 1 + 1) gh (pkK kind par ((Ar.fresh 4096).t + 1)) (tak kind t.length par (Ar.fresh 4096)).1 (tak kind t.length par (Ar.fresh 4096)).2 ∧ (V.heap.size ≤ gf ∧ V.heap.size ≤ gk ∧ V.heap.size ≤ gh) ∧ Mod [gl, w.heap.size + 1 + 1 + 1, w.heap.size + 1 + 1] V w') fun gl V hg hv hl => ?_).mono ?_
  · have hzv := hv.size
    exact make_flat p t A B c d V gl _ _ (Ar.fresh 4096) kg kl par bud kind t.length (by omega) hl (ha.mod (S := []) (Mod.of_below hv) (by simp) (by simp)) (by omega) (by omega) O (by rw [fresh_len]; show 0 + _ ≤ _; omega) (by rw [fresh_len]; exact Nat.le_refl _) (by decide)
  · rintro e w' ⟨gl, V, rfl, hg, hv, hl, gf, gk, gh, h1, h2, h3, h4⟩
    have hb2 := h2.blocks
    have hlg : gl < V.heap.size := lt_of_blk hl
    have hzv := hv.size
    have hz4 := h4.size
    exact ⟨gl, rfl, ⟨gf, gk, gh, w.heap.size + 1 + 1, h1, h2, ⟨by omega, by omega, by omega⟩, by omega, by omega, by omega, by omega⟩, mod_fresh hv hg h4⟩
theorem wnew_co (hg : 1 ≤ kg ∧ kg ≤ 5) (hl : 1 ≤ kl ∧ kl ≤ 5) (hp : 1 ≤ par ∧ par ≤ 32) (hb0 : 0 ≤ bud) (hB : Bud.right bud = true) : Calls Tryz.prog 18 #[(.agg #[.slice A p.length c, .slice B t.length d]), .agg #[.int .i64 6, .int .i64 kg, .int .i64 kl, .int .i64 par, .int .i64 bud]] w (NewW 6 (RC B0 (nwOf p t kg kl par bud)) w) := by
  obtain ⟨l1, l2, l3, l4⟩ := chk_len hck
  have O := nw_ok hck hg hl hp hb0
  have hft := nw_fits hck O hp.2
  refine (wnew_gen p t A B c d w hck hs ht 6 kg kl par bud (fun gl W => RC B0 (nwOf p t kg kl par bud) (w.heap.size + 1 + 1 + 1) gl W) fun W hb ha hlt => ?_).mono fun e w' ⟨gw, gt, gl, W2, e1, e2, e3, e4⟩ => ⟨gw, _, gt, gl, W2, e1, e2, e3, e4⟩
  have hz := hb.size
  refine (lnew_gen p t A B c d W hck ((Sl.below hs hb).more hz) ((Sl.below ht hb).more hz) 6 named_6 (w.heap.size + 1 + 1 + 1) kg kl par bud (fun gl V w' => ∃ cd : Cd, LkB w' gl 6 t.length 147 (couV cd.gl) ∧ CoAt w' cd ((nwOf p t kg kl par bud).pm (Ar.fresh 4096)) ((nwOf p t kg kl par bud).st (Ar.fresh 4096)) ∧ cd.col gl = 0 ∧ (∀ x, x < V.heap.size → x ≠ w.heap.size + 1 + 1 + 1 → x ≠ w.heap.size + 1 + 1 → cd.col x = 0) ∧ Mod [gl, w.heap.size + 1 + 1 + 1, w.heap.size + 1 + 1] V w') fun gl V hg hv hl => ?_).mono ?_
  · have hzv := hv.size
    exact (make_co p t A B c d V hck ((Sl.below hs (hb.trans (hv.mono hz))).more (hb.trans (hv.mono hz)).size) ((Sl.below ht (hb.trans (hv.mono hz))).more (hb.trans (hv.mono hz)).size) gl _ _ (Ar.fresh 4096) kg kl par bud hl (ha.mod (S := []) (Mod.of_below hv) (by simp) (by simp)) (by omega) ⟨by omega, by omega, by omega⟩ O hB (by rw [fresh_len]; exact hft) (by rw [fresh_len]; exact Nat.le_refl _) (by decide))
  · rintro e w' ⟨gl, V, rfl, hg, hv, hl, cd, h1, h2, h3, h5, h4⟩
    have hzv := hv.size
    exact ⟨gl, rfl, ⟨cd, h1, h2, h3, fun x hx => h5 x (by omega) (by omega) (by omega)⟩, mod_fresh hv hg h4⟩
end
end Go.Proofs.YtfmiioddhpkdkaaGreat.Wo

