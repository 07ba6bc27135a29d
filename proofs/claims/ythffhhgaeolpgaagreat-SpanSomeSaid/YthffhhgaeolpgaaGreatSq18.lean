/- Merged texts: Ga5, Evs. -/
import Derived.Test.YthffhhgaeolpgaaGreatSq17
import Derived.Deep.Cut
import Derived.Deep.CutBlock
set_option linter.unusedVariables false
/- Package gate: Run, at any gate. -/
namespace Go.Proofs.YthffhhgaeolpgaaGreat.Ga
open Go.RowKit Go.Proofs.YthffhhgaeolpgaaGreat.Ara

theorem frame56 {a : Act} (h : a.tmps.size = 56) (hd : a.defers = []) : ∃ u : Nat → Value, a = { tmps := #[u 0, u 1, u 2, u 3, u 4, u 5, u 6, u 7, u 8, u 9, u 10, u 11, u 12, u 13, u 14, u 15, u 16, u 17, u 18, u 19, u 20, u 21, u 22, u 23, u 24, u 25, u 26, u 27, u 28, u 29, u 30, u 31, u 32, u 33, u 34, u 35, u 36, u 37, u 38, u 39, u 40, u 41, u 42, u 43, u 44, u 45, u 46, u 47, u 48, u 49, u 50, u 51, u 52, u 53, u 54, u 55], defers := [] } ∧ ∀ n, a.tmps.getD n undef = u n := by
  refine ⟨fun n => a.tmps.getD n undef, ?_, fun _ => rfl⟩
  have h1 := arr_lit a.tmps h
  cases a with
  | mk t d =>
    simp only at hd h1
    subst hd
    congr 1
abbrev Ev3 := Int × Int × Int
def decPl (pl : Pl) : List Value := [.int .i64 pl.rest, .int .i64 pl.stay, .int .i64 pl.times, .bool pl.rd]
def decEv (e : Ev3) : List Value := [.int .i64 e.1, .int .i64 e.2.1, .bool false, .int .i64 e.2.2]
def pl0 : Pl := ⟨0, 0, 0, false⟩
def planOf (ps : List Pl) (t : Int) : Pl := if 0 ≤ t ∧ t < (ps.length : Int) then ps.getD t.toNat pl0 else pl0
structure GI (gp : Value) (X : Type) (Gt : Nat → World → X → Prop) (st : X → Int → Int) (act : X → Int → Int → Ev3 × X) (S : List Nat) (L : Nat) : Prop where
  lt : ∀ q ∈ S, q < L
  keep : ∀ k W W' x, Gt k W x → Below L W W' → Gt k W' x
  state : ∀ k W x t, Gt k W x → Calls Tryz.prog 36 #[gp, .int .i64 t] W fun e w' => e = .returned (.int .i64 (st x t)) ∧ Below W.heap.size W w'
  doit : ∀ k W x t wn, k < 1000 → Gt k W x → Calls Tryz.prog 32 #[gp, .agg #[.int .i64 t, .int .i64 wn]] W fun e w' => e = .returned (gev (act x t wn).1.1 (act x t wn).1.2.1 (act x t wn).1.2.2) ∧ Gt (k + 1) w' (act x t wn).2 ∧ Mod S W w'
structure RunS (X : Type) where
  x : X
  m : Int → Wn
  out : List Ev3
def runStep {X : Type} (st : X → Int → Int) (act : X → Int → Int → Ev3 × X) (ps : List Pl) (r : RunS X) (t : Int) : RunS X :=
  ⟨(act r.x t (wantS (planOf ps t) (r.m t) (st r.x t)).1).2, fun u => if u = t then (wantS (planOf ps t) (r.m t) (st r.x t)).2 else r.m u, r.out ++ [(act r.x t (wantS (planOf ps t) (r.m t) (st r.x t)).1).1]⟩
def runL {X : Type} (st : X → Int → Int) (act : X → Int → Int → Ev3 × X) (ps : List Pl) (x : X) (picks : List Int) : RunS X := picks.foldl (runStep st act ps) ⟨x, fun _ => wn0, []⟩
theorem runL_take {X : Type} (st : X → Int → Int) (act : X → Int → Int → Ev3 × X) (ps : List Pl) (x : X) (picks : List Int) {k : Nat} (h : k < picks.length) : runL st act ps x (picks.take (k + 1)) = runStep st act ps (runL st act ps x (picks.take k)) picks[k] := by
  unfold runL
  rw [List.take_succ_eq_append_getElem h, List.foldl_append]
  rfl
structure Clos (W : World) (L : Nat) (ps : List Pl) (F : Int → Option Nat) (m : Int → Wn) (k : Nat) : Prop where
  at_ : ∀ t B, F t = some B → L ≤ B ∧ CloAt W B (planOf ps t) (m t)
  no : ∀ t, F t = none → m t = wn0
  apart : ∀ t u B B', t ≠ u → F t = some B → F u = some B' → B + 4 ≤ B' ∨ B' + 4 ≤ B
  num : ∀ t, (0 ≤ (m t).pk ∧ (m t).pk ≤ k) ∧ (0 ≤ (m t).as_ ∧ (m t).as_ ≤ k)
theorem Clos.mod {W W' : World} {L : Nat} {ps : List Pl} {F : Int → Option Nat} {m : Int → Wn} {k : Nat} (h : Clos W L ps F m k) {S : List Nat} (hm : Mod S W W') (hS : ∀ q ∈ S, q < L ∨ ∀ t B, F t = some B → q < B ∨ B + 4 ≤ q) : Clos W' L ps F m k :=
  ⟨fun t B hF => ⟨(h.at_ t B hF).1, (h.at_ t B hF).2.mod hm fun q hq => by
    have hL := (h.at_ t B hF).1
    rcases hS q hq with hq | hq
    · left; omega
    · exact hq t B hF⟩, h.no, h.apart, h.num⟩
theorem wantT_num (pl : Pl) (pk as_ st : Int) : (wantT pl pk as_ st).2.pk = pk ∧ ((wantT pl pk as_ st).2.as_ = as_ ∨ (wantT pl pk as_ st).2.as_ = as_ + 1) := by
  unfold wantT
  split
  · exact ⟨rfl, .inr rfl⟩
  · split
    · exact ⟨rfl, .inl rfl⟩
    · exact ⟨rfl, .inl rfl⟩
theorem num_step {pl : Pl} {x : Wn} {st : Int} {k : Nat} (h : (0 ≤ x.pk ∧ x.pk ≤ k) ∧ (0 ≤ x.as_ ∧ x.as_ ≤ k)) : (0 ≤ (wantS pl x st).2.pk ∧ (wantS pl x st).2.pk ≤ (k + 1 : Nat)) ∧ (0 ≤ (wantS pl x st).2.as_ ∧ (wantS pl x st).2.as_ ≤ (k + 1 : Nat)) := by
  unfold wantS
  obtain ⟨q, hq, hq0, hq1⟩ : ∃ q, (if st = x.ws then x.pk else 0) = q ∧ 0 ≤ q ∧ q ≤ k := ⟨_, rfl, by split <;> omega, by split <;> omega⟩
  rw [hq]
  obtain ⟨h1, h2⟩ := wantT_num pl (q + 1) x.as_ st
  rw [h1]
  omega
theorem Clos.call {W W' : World} {L : Nat} {ps : List Pl} {F : Int → Option Nat} {m : Int → Wn} {k : Nat} (h : Clos W L ps F m k) {t : Int} {B : Nat} (hF : F t = some B) {x : Wn} (hx : CloAt W' B (planOf ps t) x) (hm : Mod [B + 1, B + 2, B + 3] W W') (hn : (0 ≤ x.pk ∧ x.pk ≤ (k + 1 : Nat)) ∧ (0 ≤ x.as_ ∧ x.as_ ≤ (k + 1 : Nat))) : Clos W' L ps F (fun u => if u = t then x else m u) (k + 1) := by
  refine ⟨fun u B' hu => ?_, fun u hu => ?_, h.apart, fun u => ?_⟩
  · by_cases e : u = t
    · subst e
      rw [hF] at hu
      injection hu with hu
      subst hu
      simp only [if_true]
      exact ⟨(h.at_ _ _ hF).1, hx⟩
    · simp only [if_neg e]
      refine ⟨(h.at_ u B' hu).1, (h.at_ u B' hu).2.mod hm fun q hq => ?_⟩
      have := h.apart u t B' B e hu hF
      simp at hq
      omega
  · by_cases e : u = t
    · subst e
      rw [hF] at hu
      cases hu
    · simp only [if_neg e]
      exact h.no u hu
  · by_cases e : u = t
    · subst e
      simp only [if_true]
      exact hn
    · simp only [if_neg e]
      have := h.num u
      omega
theorem Clos.fresh {W W' : World} {L : Nat} {ps : List Pl} {F : Int → Option Nat} {m : Int → Wn} {k : Nat} (h : Clos W L ps F m k) {t : Int} (hF : F t = none) (hL : L ≤ W.heap.size) {B : Nat} (hB : W.heap.size ≤ B) (hm : Below W.heap.size W W') (hx : CloAt W' B (planOf ps t) wn0) : Clos W' L ps (fun u => if u = t then some B else F u) m k := by
  have hlt : ∀ u B', F u = some B' → B' + 4 ≤ W.heap.size := fun u B' hu => (h.at_ u B' hu).2.lt
  refine ⟨fun u B' hu => ?_, fun u hu => ?_, fun u v B1 B2 hne h1 h2 => ?_, h.num⟩
  · by_cases e : u = t
    · subst e
      simp only [if_true] at hu
      injection hu with hu
      subst hu
      rw [h.no _ hF]
      exact ⟨by omega, hx⟩
    · simp only [if_neg e] at hu
      exact ⟨(h.at_ u B' hu).1, (h.at_ u B' hu).2.mod (Mod.of_below (S := []) hm) (by simp)⟩
  · by_cases e : u = t
    · subst e
      simp only [if_true] at hu
      cases hu
    · simp only [if_neg e] at hu
      exact h.no u hu
  · by_cases e1 : u = t
    · by_cases e2 : v = t
      · omega
      · simp only [if_pos e1] at h1
        simp only [if_neg e2] at h2
        injection h1 with h1
        have := hlt v B2 h2
        omega
    · simp only [if_neg e1] at h1
      by_cases e2 : v = t
      · simp only [if_pos e2] at h2
        injection h2 with h2
        have := hlt u B1 h1
        omega
      · simp only [if_neg e2] at h2
        exact h.apart u v B1 B2 hne h1 h2
theorem own_mod {B : Nat} {e : TypeId} {size : Nat} {v : Value} {n : Nat} {xs : List Value} {S : List Nat} {W W' : World} (h : W.ownsRow B e size v n xs) (hm : Mod S W W') (hS : ∀ q ∈ S, q < B ∨ ∀ b, v.ownBlock = some b → q ≠ b) : W'.ownsRow B e size v n xs := by
  obtain ⟨h1, h2⟩ := h
  refine ⟨h1, ?_⟩
  rcases h2 with h2 | ⟨g, cap, cur, rfl, hg, hb, rest⟩
  · exact .inl h2
  · refine .inr ⟨g, cap, cur, rfl, hg, hm.blk hb (fun hq => ?_), rest⟩
    rcases hS g hq with h | h
    · omega
    · exact h g rfl rfl
variable {X : Type} (gp : Value) (Gt : Nat → World → X → Prop) (st : X → Int → Int) (act : X → Int → Int → Ev3 × X) (S : List Nat)
structure RW (ps : List Pl) (k : Nat) (v : Value) (F : Int → Option Nat) (r : RunS X) (n : Nat) (w W : World) : Prop where
  own : W.ownsRow (w.heap.size + 1) 65 4 v k (r.out.flatMap decEv)
  fm : FM W w.heap.size n F
  clos : Clos W (w.heap.size + 1) ps F r.m k
  gt : Gt k W r.x
  mod : Mod S w W
  sz : w.heap.size + 1 ≤ W.heap.size
theorem FM.mono {W : World} {mb n n' : Nat} {F : Int → Option Nat} (h : FM W mb n F) (hn : n ≤ n') : FM W mb n' F := by
  obtain ⟨D, h1, h2⟩ := h
  exact ⟨D, h1.mono hn, h2⟩
theorem RW.more {Gt : Nat → World → X → Prop} {S : List Nat} {ps : List Pl} {k : Nat} {v : Value} {F : Int → Option Nat} {r : RunS X} {n : Nat} {w W : World} (h : RW Gt S ps k v F r n w W) : RW Gt S ps k v F r (n + 1) w W := ⟨h.own, h.fm.mono (Nat.le_succ _), h.clos, h.gt, h.mod, h.sz⟩
def RJ (ps : List Pl) (Aq : Option Addr) (cp : Nat) (l : List Int) (A : Option Addr) (cap : Nat) (x0 : X) (w : World) (a : Act) (W : World) : Prop :=
  a.tmps.size = 56 ∧ a.defers = [] ∧ a.tmps.getD 0 undef = gp ∧ a.tmps.getD 1 undef = .slice Aq ps.length cp ∧ a.tmps.getD 7 undef = .map (some w.heap.size) ∧ a.tmps.getD 13 undef = .slice A l.length cap ∧ a.tmps.getD 14 undef = .int .i64 (l.length : Int) ∧ ∃ (k : Nat) (v : Value) (F : Int → Option Nat), a.tmps.getD 8 undef = v ∧ a.tmps.getD 15 undef = .int .i64 (k : Int) ∧ k ≤ l.length ∧ RW Gt S ps k v F (runL st act ps x0 (l.take k)) k w W
def RC (ps : List Pl) (Aq : Option Addr) (cp : Nat) (l : List Int) (A : Option Addr) (cap : Nat) (k : Nat) (t : Int) (v : Value) (r : RunS X) (w : World) (a : Act) (W : World) : Prop :=
  a.tmps.size = 56 ∧ a.defers = [] ∧ a.tmps.getD 0 undef = gp ∧ a.tmps.getD 1 undef = .slice Aq ps.length cp ∧ a.tmps.getD 7 undef = .map (some w.heap.size) ∧ a.tmps.getD 8 undef = v ∧ a.tmps.getD 10 undef = .int .i64 t ∧ a.tmps.getD 13 undef = .slice A l.length cap ∧ a.tmps.getD 14 undef = .int .i64 (l.length : Int) ∧ a.tmps.getD 15 undef = .int .i64 (k : Int) ∧ ∃ (F : Int → Option Nat) (B : Nat), F t = some B ∧ RW Gt S ps k v F r (k + 1) w W
def R5 (ps : List Pl) (Aq : Option Addr) (cp : Nat) (l : List Int) (A : Option Addr) (cap : Nat) (k : Nat) (t : Int) (v : Value) (w W0 : World) (a : Act) (W : World) : Prop :=
  a.tmps.size = 56 ∧ a.defers = [] ∧ a.tmps.getD 0 undef = gp ∧ a.tmps.getD 1 undef = .slice Aq ps.length cp ∧ a.tmps.getD 7 undef = .map (some w.heap.size) ∧ a.tmps.getD 8 undef = v ∧ a.tmps.getD 10 undef = .int .i64 t ∧ a.tmps.getD 13 undef = .slice A l.length cap ∧ a.tmps.getD 14 undef = .int .i64 (l.length : Int) ∧ a.tmps.getD 15 undef = .int .i64 (k : Int) ∧ W = W0
theorem clo_nil (B : Nat) (W : World) : (binOp .eql 37 (clo B) .nilFunc).run Tryz.prog W = .ok (.bool false) W := by
  unfold clo
  kernel_rfl
theorem nil_nil (W : World) : (binOp .eql 37 .nilFunc .nilFunc).run Tryz.prog W = .ok (.bool true) W := by
  kernel_rfl
theorem clo_g (x y : Operand) (B : Nat) (W : World) : (eqGuard .eql 37 x y (clo B) .nilFunc).run Tryz.prog W = .ok () W := by
  unfold clo
  kernel_rfl
theorem mod_below {S : List Nat} {a b c : World} (h : Mod S a b) (hb : Below a.heap.size b c) : Mod S a c :=
  ⟨hb.os.trans h.os, hb.tape.trans h.tape, hb.output.trans h.output, Nat.le_trans h.size hb.size, fun k hk hn => (hb.block k hk).trans (h.block k hk hn)⟩
theorem RW.fresh {X : Type} {gp : Value} {Gt : Nat → World → X → Prop} {st : X → Int → Int} {act : X → Int → Int → Ev3 × X} {S : List Nat} {ps : List Pl} {k : Nat} {v : Value} {F : Int → Option Nat} {r : RunS X} {w W w2 w3 : World} (hG : GI gp X Gt st act S w.heap.size) (h : RW Gt S ps k v F r k w W) {t : Int} (hF : F t = none) {B : Nat} (hB : W.heap.size ≤ B) (hb : Below W.heap.size W w2) (hc : CloAt w2 B (planOf ps t) wn0)
    (hfm : FM w3 w.heap.size (k + 1) fun u => if u = t then some B else F u) (hm : Mod [w.heap.size] w2 w3) : RW Gt S ps k v (fun u => if u = t then some B else F u) r (k + 1) w w3 := by
  have hz := h.sz
  have hz2 := hb.size
  have hb3 : Below w.heap.size W w3 := (hb.mono (by omega)).trans (hm.below (by omega) (by simp))
  refine ⟨own_mod (own_mod h.own (Mod.of_below (S := []) hb) (by simp)) hm (by simp), hfm, (h.clos.fresh hF (by omega) hB hb hc).mod hm (by simp), hG.keep _ _ _ _ h.gt hb3, mod_below h.mod hb3, ?_⟩
  have := hm.size
  omega
theorem RW.same {Gt : Nat → World → X → Prop} {S : List Nat} {gp : Value} {st : X → Int → Int} {act : X → Int → Int → Ev3 × X} {ps : List Pl} {k : Nat} {v : Value} {F : Int → Option Nat} {r : RunS X} {n : Nat} {w W W' : World} (hG : GI gp X Gt st act S w.heap.size) (h : RW Gt S ps k v F r n w W) (hb : Below W.heap.size W W') : RW Gt S ps k v F r n w W' := by
  have hz := h.sz
  have hz2 := hb.size
  exact ⟨own_mod h.own (Mod.of_below (S := []) hb) (by simp), h.fm.mod (Mod.of_below (S := []) hb) (by simp), h.clos.mod (Mod.of_below (S := []) hb) (by simp), hG.keep _ _ _ _ h.gt (hb.mono (by omega)), mod_below h.mod (hb.mono (by omega)), by omega⟩
theorem own_apart {W : World} {base : Nat} {v : Value} {n : Nat} {xs : List Value} {B : Nat} {pl : Pl} {x : Wn} (h : W.ownsRow base 65 4 v n xs) (hc : CloAt W B pl x) {q : Nat} (hq : v.ownBlock = some q) : q < B ∨ B + 4 ≤ q := by
  rcases h.2 with ⟨rfl, _⟩ | ⟨g, cap, cur, rfl, _, hb, _⟩
  · cases hq
  · have e : g = q := by simpa [Value.ownBlock] using hq
    subst e
    have n0 : g ≠ B := fun e => by subst e; have := hb.symm.trans hc.b0; simp at this
    have n1 : g ≠ B + 1 := fun e => by subst e; have := hb.symm.trans hc.b1; simp at this
    have n2 : g ≠ B + 2 := fun e => by subst e; have := hb.symm.trans hc.b2; simp at this
    have n3 : g ≠ B + 3 := fun e => by subst e; have := hb.symm.trans hc.b3; simp at this
    omega
structure RW2 (ps : List Pl) (k : Nat) (v : Value) (F : Int → Option Nat) (out : List Ev3) (m : Int → Wn) (x : X) (k2 : Nat) (w W : World) : Prop where
  own : W.ownsRow (w.heap.size + 1) 65 4 v k (out.flatMap decEv)
  fm : FM W w.heap.size (k + 1) F
  clos : Clos W (w.heap.size + 1) ps F m (k + 1)
  gt : Gt k2 W x
  mod : Mod S w W
  sz : w.heap.size + 1 ≤ W.heap.size
theorem RW.call {Gt : Nat → World → X → Prop} {S : List Nat} {gp : Value} {st : X → Int → Int} {act : X → Int → Int → Ev3 × X} {ps : List Pl} {k : Nat} {v : Value} {F : Int → Option Nat} {r : RunS X} {w W W' : World} (hG : GI gp X Gt st act S w.heap.size) (h : RW Gt S ps k v F r (k + 1) w W) {t : Int} {B : Nat} (hF : F t = some B) (s : Int) (hx : CloAt W' B (planOf ps t) (wantS (planOf ps t) (r.m t) s).2) (hm : Mod [B + 1, B + 2, B + 3] W W') : RW2 Gt S ps k v F r.out (fun u => if u = t then (wantS (planOf ps t) (r.m t) s).2 else r.m u) r.x k w W' := by
  have hz := h.sz
  obtain ⟨hL, hc⟩ := h.clos.at_ t B hF
  have hb : Below w.heap.size W W' := hm.below (by omega) (by simp; omega)
  refine ⟨own_mod h.own hm (fun q hq => .inr fun b hb e => ?_), h.fm.mod hm (by simp; omega), h.clos.call hF hx hm (num_step (h.clos.num t)), hG.keep _ _ _ _ h.gt hb, mod_below h.mod hb, Nat.le_trans hz hm.size⟩
  subst e
  have := own_apart h.own hc hb
  simp at hq
  omega
theorem RW2.did {Gt : Nat → World → X → Prop} {S : List Nat} {ps : List Pl} {k : Nat} {v : Value} {F : Int → Option Nat} {out : List Ev3} {m : Int → Wn} {x x' : X} {k2 k3 : Nat} {w W W' : World} (h : RW2 Gt S ps k v F out m x k2 w W) (hS : ∀ q ∈ S, q < w.heap.size) (hg : Gt k3 W' x') (hm : Mod S W W') : RW2 Gt S ps k v F out m x' k3 w W' :=
  ⟨own_mod h.own hm (fun q hq => .inl (by have := hS q hq; omega)), h.fm.mod hm (fun hq => by have := hS _ hq; omega), h.clos.mod hm (fun q hq => .inl (by have := hS q hq; omega)), hg, h.mod.trans hm, Nat.le_trans h.sz hm.size⟩
theorem RW2.app {Gt : Nat → World → X → Prop} {S : List Nat} {gp : Value} {st : X → Int → Int} {act : X → Int → Int → Ev3 × X} {ps : List Pl} {k : Nat} {v v' : Value} {F : Int → Option Nat} {out : List Ev3} {m : Int → Wn} {x : X} {w W W' : World} (hG : GI gp X Gt st act S w.heap.size) (h : RW2 Gt S ps k v F out m x (k + 1) w W) (ev : Ev3) (ho : W'.ownsRow (w.heap.size + 1) 65 4 v' (k + 1) (out.flatMap decEv ++ decEv ev)) (hb : Below (w.heap.size + 1) W W') (hg : W.grownBy W' v.ownBlock) : RW Gt S ps (k + 1) v' F ⟨x, m, out ++ [ev]⟩ (k + 1) w W' := by
  have hm : Mod v.ownBlock.toList W W' := ⟨hg.os, hg.tape, hg.output, hg.size, fun q hq hn => hg.block q hq (fun e => hn (by rw [← e]; simp))⟩
  have hb' := hb.mono (Nat.le_succ w.heap.size)
  refine ⟨by rw [List.flatMap_append]; simpa using ho, h.fm.blk (hb.block _ (by omega)), h.clos.mod hm (fun q hq => .inr fun t B hF => own_apart h.own (h.clos.at_ t B hF).2 (by simpa using hq)), hG.keep _ _ _ _ h.gt hb', mod_below h.mod hb', Nat.le_trans h.sz hb.size⟩
theorem infoE : (Tryz.prog.info? 65).map (fun i => (i.zero, i.size, i.bytes)) = some (some (.agg #[.int .i64 0, .int .i64 0, .bool false, .int .i64 0]), 4, 32) := by kernel_rfl
set_option maxRecDepth 100000 in
set_option maxHeartbeats 4000000 in
theorem run_any (w : World) (hG : GI gp X Gt st act S w.heap.size) (ps : List Pl) (Aq : Option Addr) (cp : Nat) (hp : ps.length ≤ 1000) (hsp : ∀ W, Mod S w W → Sl W w.heap.size Aq (ps.flatMap decPl)) (l : List Int) (A : Option Addr) (cap : Nat) (hl : l.length ≤ 1000) (hwf : ∀ t ∈ l, isI t) (hsl : ∀ W, Mod S w W → Sl W w.heap.size A (l.flatMap decI)) (x0 : X) (hx0 : Gt 0 w x0) :
    Calls Tryz.prog 39 #[gp, .slice Aq ps.length cp, .slice A l.length cap] w fun e w' => ∃ B c, e = .returned (.slice B l.length c) ∧ w'.ownsRow (w.heap.size + 1) 65 4 (.slice B l.length c) l.length ((runL st act ps x0 l).out.flatMap decEv) ∧ Gt l.length w' (runL st act ps x0 l).x ∧ Mod S w w' := by
  have HS := Lib.hid hsl
  have HP := Lib.hid hsp
  have HWF := Lib.hid hwf
  have HGI := Lib.hid hG
  have HX := Lib.hid hx0
  have hmm := @run_makeMap Tryz.prog
  clear hsl hsp hwf hG hx0
  go_enter Tryz.func39, Tryz.ntmps39
  go_wp2_with fail
  refine wp_loop (RJ gp Gt st act S ps Aq cp l A cap x0 w) (fun a' _ => l.length - (intOf (a'.tmps.getD 15 undef)).toNat) ?_ ?_
  · exact ⟨rfl, rfl, rfl, rfl, rfl, rfl, rfl, 0, _, fun _ => none, rfl, rfl, Nat.zero_le _, World.ownsRow_nil _ _ _ _, FM.made w, ⟨fun _ _ h => (by cases h), fun _ _ => rfl, fun _ _ _ _ _ h => (by cases h), fun _ => (by simp [runL, wn0])⟩, HGI.out.keep _ _ _ _ HX.out (below_new _ _), Mod.of_below (below_new _ _), by simp⟩
  · rintro a' W ⟨hsz, hdf, s0, s1, s7, s13, s14, k, v, F, s8, s15, hk, hR⟩
    obtain ⟨u, rfl, hu⟩ := frame56 hsz hdf
    rw [hu] at s0 s1 s7 s13 s14 s8 s15
    simp only [s0, s1, s7, s13, s14, s8, s15]
    clear hsz hdf s0 s1 s7 s13 s14 s8 s15 hu
    have HR := Lib.hid hR
    clear hR
    by_cases hlt : k < l.length
    · have hst := runL_take st act ps x0 l hlt
      have ht := HWF.out _ (List.getElem_mem hlt)
      obtain ⟨b, off, rfl, hbb, hcell⟩ := Sl_at (k := 1) (fun _ => rfl) (by omega) (HS.out _ HR.out.mod) (by omega)
      have c0 := hcell k hlt 0 (by omega)
      simp only [decI, List.getElem?_cons_zero, Nat.mul_one, Nat.add_zero] at c0
      have HST := Lib.hid hst
      have HT := Lib.hid ht
      have i1 : (k : Int) < (l.length : Int) := by omega
      clear hcell hst ht HX
      generalize l[k] = t at *
      generalize runL st act ps x0 (l.take k) = r at *
      go_upto_region 5 with fail
      refine wp_cut (R5 gp ps Aq cp l (some ⟨b, off, none⟩) cap k t v w W) ?_ ?_
      · rintro a' W0 ⟨hsz, hdf, s0, s1, s7, s8, s10, s13, s14, s15, hW0⟩
        obtain rfl := hW0
        obtain ⟨u, rfl, hu⟩ := frame56 hsz hdf
        rw [hu] at s0 s1 s7 s8 s10 s13 s14 s15
        simp only [s0, s1, s7, s8, s10, s13, s14, s15]
        clear hsz hdf s0 s1 s7 s8 s10 s13 s14 s15 hu
        rename_i hK0
        refine hK0 _ _ ?_
        refine wp_seq_k fun K1 hK1 => ?_
        refine wp_cut (RC gp Gt S ps Aq cp l (some ⟨b, off, none⟩) cap k t v r w) ?_ ?_
        · rintro a' W2 ⟨hsz, hdf, s0, s1, s7, s8, s10, s13, s14, s15, F2, B, hF, hR2⟩
          refine hK1 _ _ ?_
          obtain ⟨u, rfl, hu⟩ := frame56 hsz hdf
          rw [hu] at s0 s1 s7 s8 s10 s13 s14 s15
          simp only [s0, s1, s7, s8, s10, s13, s14, s15]
          clear hsz hdf s0 s1 s7 s8 s10 s13 s14 s15 hu
          have HR2 := Lib.hid (hR2.same HGI.out (show Below W2.heap.size W2 W2.drew from Below.drew (Below.refl _ _)))
          have hlk := HR2.out.fm.look1 HT.out hF
          clear hR2
          refine wp_region_held_drew (S := fun V => (Instr.lookup 152 (.map (some w.heap.size)) (.int .i64 t) false).run Tryz.prog V = .ok (clo B) V) (by kernel_rfl) hlk (fun hHeld => ?_)
          refine take_to 0 (some 40) (v := ?_) rfl rfl (by kernel_rfl) (by kernel_rfl) (by kernel_rfl) (fun _ _ _ h => h) (Or.inl ⟨by rfl, ?_⟩) (by first | trivial | assumption) ?_
          rotate_left
          focus (intro w hSw; (try dsimp only at hSw); go_simp; (try with_reducible rfl))
          simp only [Act.put, List.setIfInBounds_toArray, List.set_cons_zero, List.set_cons_succ]
          refine take_to 1 (some 41) (v := ?_) rfl rfl (by kernel_rfl) (by kernel_rfl) (by kernel_rfl) (fun _ _ _ h => h) (Or.inl ⟨by rfl, ?_⟩) (by first | trivial | assumption) ?_
          rotate_left
          focus (intro w hSw; (try dsimp only at hSw); go_simp; (try with_reducible rfl))
          simp only [Act.put, List.setIfInBounds_toArray, List.set_cons_zero, List.set_cons_succ]
          refine take_to 2 (some 42) (v := ?_) rfl rfl (by kernel_rfl) (by kernel_rfl) (by kernel_rfl) (fun _ _ _ h => h) (Or.inl ⟨by rfl, ?_⟩) (by first | trivial | assumption) ?_
          rotate_left
          focus (intro w hSw; (try dsimp only at hSw); go_simp; (try with_reducible rfl))
          simp only [Act.put, List.setIfInBounds_toArray, List.set_cons_zero, List.set_cons_succ]
          refine take_to 3 (some 43) (v := ?_) rfl rfl (by kernel_rfl) (by kernel_rfl) (by kernel_rfl) (fun _ _ _ h => h) (Or.inl ⟨by rfl, ?_⟩) (by first | trivial | assumption) ?_
          rotate_left
          focus (intro w hSw; (try dsimp only at hSw); go_simp; (try with_reducible rfl))
          simp only [Act.put, List.setIfInBounds_toArray, List.set_cons_zero, List.set_cons_succ]
          refine take_to 4 (some 44) (v := ?_) rfl rfl (by kernel_rfl) (by kernel_rfl) (by kernel_rfl) (fun _ _ _ h => h) (Or.inl ⟨by rfl, ?_⟩) (by first | trivial | assumption) ?_
          rotate_left
          focus (intro w hSw; (try dsimp only at hSw); go_simp; (try with_reducible rfl))
          simp only [Act.put, List.setIfInBounds_toArray, List.set_cons_zero, List.set_cons_succ]
          refine take_to 5 (some 45) (v := ?_) rfl rfl (by kernel_rfl) (by kernel_rfl) (by kernel_rfl) (fun _ _ _ h => h) (Or.inl ⟨by rfl, ?_⟩) (by first | trivial | assumption) ?_
          rotate_left
          focus (intro w hSw; (try dsimp only at hSw); go_simp; (try with_reducible rfl))
          simp only [Act.put, List.setIfInBounds_toArray, List.set_cons_zero, List.set_cons_succ]
          refine take_to 6 (some 46) (v := ?_) rfl rfl (by kernel_rfl) (by kernel_rfl) (by kernel_rfl) (fun _ _ _ h => h) (Or.inl ⟨by rfl, ?_⟩) (by first | trivial | assumption) ?_
          rotate_left
          focus (intro w hSw; (try dsimp only at hSw); go_simp; (try with_reducible rfl))
          simp only [Act.put, List.setIfInBounds_toArray, List.set_cons_zero, List.set_cons_succ]
          refine take_to 7 (some 47) (v := ?_) rfl rfl (by kernel_rfl) (by kernel_rfl) (by kernel_rfl) (fun _ _ _ h => h) (Or.inl ⟨by rfl, ?_⟩) (by first | trivial | assumption) ?_
          rotate_left
          focus (intro w hSw; (try dsimp only at hSw); go_simp; (try with_reducible rfl))
          simp only [Act.put, List.setIfInBounds_toArray, List.set_cons_zero, List.set_cons_succ]
          refine wpAnyH_ready (rs := [8]) (by kernel_rfl) (by simp) ?_
          refine AllReadyH.cons rfl (fun K hK => ?_) AllReadyH.nil
          go_simp
          refine (HGI.out.state k _ _ t HR2.out.gt).mono ?_
          rintro e w3 ⟨rfl, hb3⟩
          have HR3 := Lib.hid (HR2.out.same HGI.out hb3)
          have hlk3 := HR3.out.fm.look1 HT.out hF
          have hcl3 := HR3.out.clos.at_ t B hF
          have hnum := HR3.out.clos.num t
          clear hb3 HR2 hlk
          go_simp
          refine hK.out _ _ hlk3 (fun hHeld => ?_)
          refine wpAnyH_ready (rs := [9]) (by kernel_rfl) (by simp) ?_
          refine AllReadyH.cons rfl (fun K hK => ?_) AllReadyH.nil
          go_simp
          simp only [clo]
          go_simp
          refine (clo_any B (planOf ps t) (r.m t) w3 hcl3.2 (by omega) (by omega) (st r.x t)).mono ?_
          rintro e w4 ⟨rfl, hc4, hm4⟩
          have HR4 := Lib.hid (HR3.out.call HGI.out hF (st r.x t) hc4 hm4)
          have hlk4 := HR4.out.fm.look1 HT.out hF
          clear HR3 hc4 hm4 hcl3 hnum hlk3
          go_simp
          refine hK.out _ _ hlk4 (fun hHeld => ?_)
          refine take_to 10 (some 50) (v := ?_) rfl rfl (by kernel_rfl) (by kernel_rfl) (by kernel_rfl) (fun _ _ _ h => h) (Or.inl ⟨by rfl, ?_⟩) (by first | trivial | assumption) ?_
          rotate_left
          focus (intro w hSw; (try dsimp only at hSw); go_simp; (try with_reducible rfl))
          simp only [Act.put, List.setIfInBounds_toArray, List.set_cons_zero, List.set_cons_succ]
          refine wpAnyH_ready (rs := [11]) (by kernel_rfl) (by simp) ?_
          refine AllReadyH.cons rfl (fun K hK => ?_) AllReadyH.nil
          go_simp
          refine (HGI.out.doit k _ _ t _ (by omega) HR4.out.gt).mono ?_
          rintro e w5 ⟨rfl, hg5, hm5⟩
          have HR5 := Lib.hid (HR4.out.did HGI.out.lt hg5 hm5)
          have hlk5 := HR5.out.fm.look1 HT.out hF
          clear HR4 hg5 hm5 hlk4
          have HST2 := HST.out
          unfold runStep at HST2
          replace HST2 := Lib.hid HST2
          generalize act r.x t (wantS (planOf ps t) (r.m t) (st r.x t)).1 = ax at *
          obtain ⟨⟨ek, et, ec⟩, x2⟩ := ax
          simp only [gev] at HST2 HR5 ⊢
          go_simp
          refine hK.out _ _ hlk5 (fun hHeld => ?_)
          refine wpAnyH_ready (rs := [12]) (by kernel_rfl) (by simp) ?_
          refine AllReadyH.cons rfl (fun K hK => ?_) AllReadyH.nil
          go_simp
          have hfm5 := (HR5.out.fm.mod (Mod.of_below (S := []) (below_new w5 (.cells #[.int .i64 ek, .int .i64 et, .bool false, .int .i64 ec] 65))) (by simp)).look1 HT.out hF
          refine hK.out _ _ hfm5 (fun hHeld => ?_)
          refine wpAnyH_ready (rs := [13]) (by kernel_rfl) (by simp) ?_
          refine AllReadyH.cons rfl (fun K hK => ?_) AllReadyH.nil
          refine wp_append1 (.tmp 40) (.tmp 52) 75 65 _ 4 32 rfl Tryz.underlying75 infoE rfl (by decide) (w.heap.size + 1) w5 v k _ _ _ _ _ HR5.out.own rfl rfl rfl rfl (by simp [Value.oneCell']) (by simp only [maxLen]; omega) (by omega) HR5.out.sz (fun v' w6 hown6 hb6 hg6 => ?_)
          have HR6 := Lib.hid (HR5.out.app HGI.out (ek, et, ec) hown6.out hb6.out hg6.out)
          rw [← HST2.out] at HR6
          have hlk6 := HR6.out.fm.look1 HT.out hF
          clear hown6 hb6 hg6 HR5 hlk5 hfm5 HST2 HST
          simp only [Act.put, List.setIfInBounds_toArray, List.set_cons_zero, List.set_cons_succ]
          refine hK.out _ _ hlk6 (fun hHeld => ?_)
          refine take_to 14 (some 8) (v := ?_) rfl rfl (by kernel_rfl) (by kernel_rfl) (by kernel_rfl) (fun _ _ _ h => h) (Or.inl ⟨by rfl, ?_⟩) (by first | trivial | assumption) ?_
          rotate_left
          focus (intro w hSw; (try dsimp only at hSw); go_simp; (try with_reducible rfl))
          simp only [Act.put, List.setIfInBounds_toArray, List.set_cons_zero, List.set_cons_succ]
          refine wpAnyH_done (by kernel_rfl) ?_ _
          go_wp2_with fail
          go_roundw
          case rel => exact ⟨rfl, rfl, rfl, rfl, rfl, rfl, rfl, k + 1, v', F2, rfl, by go_num, by omega, HR6.out⟩
          case measure => simp [intOf]; omega
        · intro J K' hJ hK'
          cases hF : F t with
          | none =>
            have h0 := HR.out.fm.look0 HT.out hF
            have h1 := nil_nil W0
            have hmod0 := HR.out.mod
            by_cases hin : 0 ≤ t ∧ t < (ps.length : Int)
            · obtain ⟨T, rfl⟩ := Int.eq_ofNat_of_zero_le hin.1
              have hT : T < ps.length := by omega
              obtain ⟨bq, oq, rfl, hbq, hcq⟩ := Sl_at (k := 4) (fun _ => rfl) (by omega) (HP.out _ hmod0) (by omega)
              have p0 := hcq T hT 0 (by omega)
              have p1 := hcq T hT 1 (by omega)
              have p2 := hcq T hT 2 (by omega)
              have p3 := hcq T hT 3 (by omega)
              simp only [decPl, List.getElem?_cons_zero, List.getElem?_cons_succ, Nat.add_zero, ← Nat.add_assoc] at p0 p1 p2 p3
              have HPL := Lib.hid (show planOf ps (T : Int) = ps[T] by unfold planOf; rw [if_pos hin, List.getD_eq_getElem?_getD, Int.toNat_natCast, List.getElem?_eq_getElem hT]; rfl)
              generalize ps[T] = pl at *
              obtain ⟨pr, pp, pt, pd⟩ := pl
              simp only at p0 p1 p2 p3
              have i2 : (T : Int) < (ps.length : Int) := by omega
              have hbz : bq < W0.heap.size := by have := HR.out.sz; omega
              have i3 : (0 : Int) ≤ (T : Int) := by omega
              clear hcq hin hmod0
              go_wp2_with fail
              have hzz : (W0.alloc (.cells #[.int .i64 pr, .int .i64 pp, .int .i64 pt, .bool pd] 149)).heap.size = W0.heap.size + 1 := by simp
              refine (wants_any ⟨pr, pp, pt, pd⟩ _).mono ?_
              rintro e w2 ⟨rfl, hcl, hb2, hz2⟩
              rw [← HPL.out] at hcl
              have hbn := below_new W0 (.cells #[.int .i64 pr, .int .i64 pp, .int .i64 pt, .bool pd] 149)
              have hb3 := hbn.trans (hb2.mono hbn.size)
              rw [hzz] at hcl ⊢
              obtain ⟨w3, hr3, hfm3, hm3⟩ := (HR.out.fm.mod (Mod.of_below (S := []) hb3) (by simp)).put (by omega) HT.out (W0.heap.size + 1)
              have HRW := Lib.hid (HR.out.fresh HGI.out hF (Nat.le_succ _) hb3 hcl hfm3 hm3)
              clear hcl hb2 hz2 hbn hb3 hfm3 hm3 hzz
              go_wp2_with fail
              exact Met.intro (hJ _ _ ⟨rfl, rfl, rfl, rfl, rfl, rfl, rfl, rfl, rfl, rfl, _, _, if_pos rfl, HRW.out⟩)
            · have HPL := Lib.hid (show planOf ps t = ⟨0, 0, 0, false⟩ by unfold planOf; rw [if_neg hin]; rfl)
              by_cases h3 : 0 ≤ t
              · have h4 : ¬ t < (ps.length : Int) := by omega
                have h5 : decide (t < (ps.length : Int)) = false := decide_eq_false h4
                clear hin hmod0
                go_wp2_with fail
                have hzz : (W0.alloc (.cells #[.int .i64 0, .int .i64 0, .int .i64 0, .bool false] 149)).heap.size = W0.heap.size + 1 := by simp
                refine (wants_any ⟨0, 0, 0, false⟩ _).mono ?_
                rintro e w2 ⟨rfl, hcl, hb2, hz2⟩
                rw [← HPL.out] at hcl
                have hbn := below_new W0 (.cells #[.int .i64 0, .int .i64 0, .int .i64 0, .bool false] 149)
                have hb3 := hbn.trans (hb2.mono hbn.size)
                rw [hzz] at hcl ⊢
                obtain ⟨w3, hr3, hfm3, hm3⟩ := (HR.out.fm.mod (Mod.of_below (S := []) hb3) (by simp)).put (by omega) HT.out (W0.heap.size + 1)
                have HRW := Lib.hid (HR.out.fresh HGI.out hF (Nat.le_succ _) hb3 hcl hfm3 hm3)
                clear hcl hb2 hz2 hbn hb3 hfm3 hm3 hzz
                go_wp2_with fail
                exact Met.intro (hJ _ _ ⟨rfl, rfl, rfl, rfl, rfl, rfl, rfl, rfl, rfl, rfl, _, _, if_pos rfl, HRW.out⟩)
              · have h5 : decide (0 ≤ t) = false := decide_eq_false h3
                clear hin hmod0
                go_wp2_with fail
                have hzz : (W0.alloc (.cells #[.int .i64 0, .int .i64 0, .int .i64 0, .bool false] 149)).heap.size = W0.heap.size + 1 := by simp
                refine (wants_any ⟨0, 0, 0, false⟩ _).mono ?_
                rintro e w2 ⟨rfl, hcl, hb2, hz2⟩
                rw [← HPL.out] at hcl
                have hbn := below_new W0 (.cells #[.int .i64 0, .int .i64 0, .int .i64 0, .bool false] 149)
                have hb3 := hbn.trans (hb2.mono hbn.size)
                rw [hzz] at hcl ⊢
                obtain ⟨w3, hr3, hfm3, hm3⟩ := (HR.out.fm.mod (Mod.of_below (S := []) hb3) (by simp)).put (by omega) HT.out (W0.heap.size + 1)
                have HRW := Lib.hid (HR.out.fresh HGI.out hF (Nat.le_succ _) hb3 hcl hfm3 hm3)
                clear hcl hb2 hz2 hbn hb3 hfm3 hm3 hzz
                go_wp2_with fail
                exact Met.intro (hJ _ _ ⟨rfl, rfl, rfl, rfl, rfl, rfl, rfl, rfl, rfl, rfl, _, _, if_pos rfl, HRW.out⟩)
          | some B =>
            have h0 := HR.out.fm.look1 HT.out hF
            have h1 := clo_nil B W0
            have h2 := fun x y => clo_g x y B W0
            go_wp2_with fail
            exact Met.intro (hJ _ _ ⟨rfl, rfl, rfl, rfl, rfl, rfl, rfl, rfl, rfl, rfl, F, B, hF, HR.out.more⟩)
      · intro J K' hJ hK'
        go_wp2_with fail
        exact Met.intro (hJ _ _ ⟨rfl, rfl, rfl, rfl, rfl, rfl, rfl, rfl, rfl, rfl, rfl⟩)
    · obtain rfl : k = l.length := by omega
      have i1 : ¬ (l.length : Int) < (l.length : Int) := by omega
      rw [List.take_length] at HR
      obtain ⟨B2, cb, rfl, _, _, hsl⟩ := own_slice HR.out.own
      clear hsl
      go_wp2_with fail
      go_ret
      exact ⟨B2, cb, rfl, HR.out.own, HR.out.gt, HR.out.mod⟩
end Go.Proofs.YthffhhgaeolpgaaGreat.Ga

/- Events, and the reference's Same. -/
namespace Go.Proofs.YthffhhgaeolpgaaGreat.Evs
open Go.RowKit Go.Proofs.YthffhhgaeolpgaaGreat.Ara

structure Ev where
  kind : Int
  th : Int
  rd : Bool
  ct : Int
deriving DecidableEq
def dE (e : Ev) : List Value := [.int .i64 e.kind, .int .i64 e.th, .bool e.rd, .int .i64 e.ct]
theorem infoE : (Tryz.prog.info? 65).map (fun i => (i.zero, i.size, i.bytes)) = some (some (.agg #[.int .i64 0, .int .i64 0, .bool false, .int .i64 0]), 4, 32) := by kernel_rfl
theorem sl_ev {w : World} {Bd : Nat} {A : Option Addr} {ps : List Ev} (h : Sl w Bd A (ps.flatMap dE)) {k : Nat} (hk : k < ps.length) : ∃ b off, A = some ⟨b, off, none⟩ ∧ b < Bd ∧ ∀ j (h : j < ps.length), w.cell? ⟨b, off + j * 4, none⟩ = some (.int .i64 ps[j].kind) ∧ w.cell? ⟨b, off + j * 4 + 1, none⟩ = some (.int .i64 ps[j].th) ∧ w.cell? ⟨b, off + j * 4 + 2, none⟩ = some (.bool ps[j].rd) ∧ w.cell? ⟨b, off + j * 4 + 3, none⟩ = some (.int .i64 ps[j].ct) := by
  obtain ⟨b, off, rfl, hb, hc⟩ := Sl_at (dec := dE) (k := 4) (fun _ => rfl) (by omega) h (by omega)
  refine ⟨b, off, rfl, hb, fun j hj => ?_⟩
  have h0 := hc j hj 0 (by omega)
  have h1 := hc j hj 1 (by omega)
  have h2 := hc j hj 2 (by omega)
  have h3 := hc j hj 3 (by omega)
  simp only [dE, List.getElem?_cons_zero, List.getElem?_cons_succ, Nat.add_zero, ← Nat.add_assoc] at h0 h1 h2 h3
  exact ⟨h0, h1, h2, h3⟩
set_option maxHeartbeats 8000000 in
theorem neE (a b d : Int) (c : Bool) (a' b' d' : Int) (c' : Bool) (W : World) : (binOp .neq 65 (.agg #[.int .i64 a, .int .i64 b, .bool c, .int .i64 d]) (.agg #[.int .i64 a', .int .i64 b', .bool c', .int .i64 d'])).run Tryz.prog W = .ok (.bool (!(a == a' && (b == b' && (c == c' && d == d'))))) W := by
  have hp : Tryz.prog.stoodInHeld 65 = false := by kernel_rfl
  have key : ∀ n, (Op.equalIn (n + 1 + 1) 65 (.agg #[.int .i64 a, .int .i64 b, .bool c, .int .i64 d]) (.agg #[.int .i64 a', .int .i64 b', .bool c', .int .i64 d'])).run Tryz.prog W = .ok (a == a' && (b == b' && (c == c' && d == d'))) W := by
    intro n
    simp only [Op.equalIn, Sem.run_bind, run_underlying Tryz.underlying65, Result.andThen_ok, run_program, hp, Bool.false_eq_true, if_false]
    rw [← Array.forIn_toList]
    simp [go_sem, Op.equalIn, Tryz.underlying3, Tryz.underlying4]
    by_cases h : a = a' <;> by_cases k : b = b' <;> by_cases l : c = c' <;> by_cases m : d = d' <;> simp [h, k, l, m, go_sem, Op.equalIn, Tryz.underlying3, Tryz.underlying4]
  have k := key 9998
  simp only [binOp]
  simp [Op.equal, Op.maxDepth, k]
theorem neGE (x y : Operand) (xs ys : Array Value) (W : World) : (eqGuard .neq 65 x y (.agg xs) (.agg ys)).run Tryz.prog W = .ok () W := by
  have hm : Tryz.prog.eqGuardType Tryz.prog.depth 65 = false := by kernel_rfl
  simp [eqGuard, run_program, hm]
set_option maxHeartbeats 8000000 in
theorem eqE (a b d : Int) (c : Bool) (a' b' d' : Int) (c' : Bool) (W : World) : (binOp .eql 65 (.agg #[.int .i64 a, .int .i64 b, .bool c, .int .i64 d]) (.agg #[.int .i64 a', .int .i64 b', .bool c', .int .i64 d'])).run Tryz.prog W = .ok (.bool (a == a' && (b == b' && (c == c' && d == d')))) W := by
  have hp : Tryz.prog.stoodInHeld 65 = false := by kernel_rfl
  have key : ∀ n, (Op.equalIn (n + 1 + 1) 65 (.agg #[.int .i64 a, .int .i64 b, .bool c, .int .i64 d]) (.agg #[.int .i64 a', .int .i64 b', .bool c', .int .i64 d'])).run Tryz.prog W = .ok (a == a' && (b == b' && (c == c' && d == d'))) W := by
    intro n
    simp only [Op.equalIn, Sem.run_bind, run_underlying Tryz.underlying65, Result.andThen_ok, run_program, hp, Bool.false_eq_true, if_false]
    rw [← Array.forIn_toList]
    simp [go_sem, Op.equalIn, Tryz.underlying3, Tryz.underlying4]
    by_cases h : a = a' <;> by_cases k : b = b' <;> by_cases l : c = c' <;> by_cases m : d = d' <;> simp [h, k, l, m, go_sem, Op.equalIn, Tryz.underlying3, Tryz.underlying4]
  have k := key 9998
  simp only [binOp]
  simp [Op.equal, Op.maxDepth, k]
theorem eqGE (x y : Operand) (xs ys : Array Value) (W : World) : (eqGuard .eql 65 x y (.agg xs) (.agg ys)).run Tryz.prog W = .ok () W := by
  have hm : Tryz.prog.eqGuardType Tryz.prog.depth 65 = false := by kernel_rfl
  simp [eqGuard, run_program, hm]
set_option maxHeartbeats 4000000 in
theorem esame_any (l k : List Ev) (A C : Option Addr) (c1 c2 : Nat) (w : World) (hm : l.length ≤ 4096) (hm2 : k.length ≤ 4096)
    (hs : Sl w w.heap.size A (l.flatMap dE)) (ht : Sl w w.heap.size C (k.flatMap dE)) :
    Calls Tryz.prog 70 #[.slice A l.length c1, .slice C k.length c2] w fun e w' => e = .returned (.bool (decide (l = k))) ∧ Below w.heap.size w w' := by
  by_cases hl : l.length = k.length
  · have hlb := nbeq hl
    have hlb2 := nbne_no hl
    have HL := Lib.hid hl
    clear hl
    go_enter Tryz.func70, Tryz.ntmps70
    go_wp2_with fail
    go_loopw [5] (fun i wr => ∃ j : Nat, j ≤ l.length ∧ i = .int .i64 j ∧ l.take j = k.take j ∧ Below w.heap.size w wr) (fun i _ => l.length - (intOf i).toNat)
    case atStart => exact ⟨0, by omega, rfl, rfl, Below.refl _ _⟩
    case round =>
      obtain ⟨j, hj, rfl, hjt, hb⟩ := hrel
      have HJ := Lib.hid hjt
      clear hjt
      by_cases hlt : j < l.length
      · have hlt2 : j < k.length := by have := HL.out; omega
        obtain ⟨b, off, rfl, hbb, hcell⟩ := sl_ev (hs.below hb) hlt
        obtain ⟨b', off', rfl, hbb', hcell'⟩ := sl_ev (ht.below hb) hlt2
        obtain ⟨h0, h1, h2, h3⟩ := hcell j hlt
        obtain ⟨g0, g1, g2, g3⟩ := hcell' j hlt2
        clear hcell hcell'
        have i1 : (j : Int) < (k.length : Int) := by omega
        have i0 : (j : Int) < (l.length : Int) := by omega
        have hnx := Lib.hid (show l[j] = k[j] → l.take (j + 1) = k.take (j + 1) by
          intro h
          rw [List.take_succ_eq_append_getElem hlt, List.take_succ_eq_append_getElem hlt2, HJ.out, h])
        have hno := Lib.hid (show ¬ l[j] = k[j] → decide (l = k) = false by
          intro h
          rw [decide_eq_false_iff_not]
          rintro rfl
          exact h rfl)
        generalize l[j] = x at *
        generalize k[j] = y at *
        obtain ⟨xa, xb, xc, xd⟩ := x
        obtain ⟨ya, yb, yc, yd⟩ := y
        simp only at h0 h1 h2 h3 g0 g1 g2 g3
        have HB := Lib.hid hb
        by_cases hn : xa = ya ∧ xb = yb ∧ xc = yc ∧ xd = yd
        · have q : (xa == ya && (xb == yb && (xc == yc && xd == yd))) = true := by simp [hn]
          have HN := Lib.hid (hnx.out (by rw [hn.1, hn.2.1, hn.2.2.1, hn.2.2.2]))
          have hne : ∀ W, (binOp .neq 65 (.agg #[.int .i64 xa, .int .i64 xb, .bool xc, .int .i64 xd]) (.agg #[.int .i64 ya, .int .i64 yb, .bool yc, .int .i64 yd])).run Tryz.prog W = .ok (.bool false) W := fun W => by rw [neE, q]; rfl
          have hng := neGE
          clear hn q hb
          go_wp2_with fail
          go_quiet (fail)
          go_wp2
          go_roundw
          case rel => exact ⟨j + 1, by omega, by go_num, HN.out, below_drewN HB.out _⟩
          case measure => simp [intOf]; omega
        · have q : (xa == ya && (xb == yb && (xc == yc && xd == yd))) = false := by
            cases hq : (xa == ya && (xb == yb && (xc == yc && xd == yd))) with
            | false => rfl
            | true =>
              simp only [Bool.and_eq_true, beq_iff_eq] at hq
              exact absurd hq hn
          have HN := Lib.hid (hno.out (by intro e; injection e with e1 e2 e3 e4; exact hn ⟨e1, e2, e3, e4⟩))
          have hne : ∀ W, (binOp .neq 65 (.agg #[.int .i64 xa, .int .i64 xb, .bool xc, .int .i64 xd]) (.agg #[.int .i64 ya, .int .i64 yb, .bool yc, .int .i64 yd])).run Tryz.prog W = .ok (.bool true) W := fun W => by rw [neE, q]; rfl
          have hng := neGE
          clear hn q hb
          go_wp2_with fail
          go_quiet (fail)
          go_wp2
          go_ret
          exact ⟨by rw [HN.out]; rfl, below_drewN HB.out _⟩
      · have he := Lib.hid (show decide (l = k) = true by
          rw [decide_eq_true_iff]
          have := HJ.out
          rwa [List.take_of_length_le (by omega), List.take_of_length_le (by have := HL.out; omega)] at this)
        go_wp2
        go_ret
        exact ⟨by rw [he.out]; rfl, hb⟩
  · have hlb2 := nbne hl
    have hn := Lib.hid (show decide (l = k) = false by simp; rintro rfl; exact hl rfl)
    clear hl
    go_enter Tryz.func70, Tryz.ntmps70
    go_wp2
    go_ret
    exact ⟨by rw [hn.out]; rfl, Below.refl _ _⟩
end Go.Proofs.YthffhhgaeolpgaaGreat.Evs

