/- Merged texts: Ga5, Evs, Ga6, Ga7, Ga8. -/
import Derived.Test.YthffhhgaeolpgaaGreatGn10
import Derived.Deep.Cut
import Derived.Deep.CutBlock
/- Package gate: Run, at any gate. -/
namespace Go.Proofs.YthffhhgaeolpgaaGreat.Ga
open Go.RowKit Go.Proofs.YthffhhgaeolpgaaGreat.Ara

theorem frame56 {a : Act} (h : a.tmps.size = 56) (hd : a.defers = []) : ∃ u : Nat → Value, a = { tmps := #[u 0, u 1, u 2, u 3, u 4, u 5, u 6, u 7, u 8, u 9, u 10, u 11, u 12, u 13, u 14, u 15, u 16, u 17, u 18, u 19, u 20, u 21, u 22, u 23, u 24, u 25, u 26, u 27, u 28, u 29, u 30, u 31, u 32, u 33, u 34, u 35, u 36, u 37, u 38, u 39, u 40, u 41, u 42, u 43, u 44, u 45, u 46, u 47, u 48, u 49, u 50, u 51, u 52, u 53, u 54, u 55], defers := [] } ∧ ∀ n, a.tmps.getD n undef = u n := by
  refine ⟨fun n => a.tmps.getD n undef, ?_, fun _ => rfl⟩
  have h1 := arr_lit a.tmps h
  cases a with
  | mk t d =>
    simp only at hd h1
    subst hd
    congr 1
abbrev Ev3 := Int × Int × Int
def decPl (pl : Pl) : List Value := [.int .i64 pl.rest, .int .i64 pl.stay, .int .i64 pl.times, .bool pl.rd]
def decEv (e : Ev3) : List Value := [.int .i64 e.1, .int .i64 e.2.1, .bool false, .int .i64 e.2.2]
def pl0 : Pl := ⟨0, 0, 0, false⟩
def planOf (ps : List Pl) (t : Int) : Pl := if 0 ≤ t ∧ t < (ps.length : Int) then ps.getD t.toNat pl0 else pl0
/-- A gate, whatever it is: its states x hold in a world behind k acts; a pick turns blocks of S, all ahead of L. -/
structure GI (gp : Value) (X : Type) (Gt : Nat → World → X → Prop) (st : X → Int → Int) (act : X → Int → Int → Ev3 × X) (S : List Nat) (L : Nat) : Prop where
  lt : ∀ q ∈ S, q < L
  keep : ∀ k W W' x, Gt k W x → Below L W W' → Gt k W' x
  state : ∀ k W x t, Gt k W x → Calls Tryz.prog 36 #[gp, .int .i64 t] W fun e w' => e = .returned (.int .i64 (st x t)) ∧ Below W.heap.size W w'
  doit : ∀ k W x t wn, k < 1000 → Gt k W x → Calls Tryz.prog 32 #[gp, .agg #[.int .i64 t, .int .i64 wn]] W fun e w' => e = .returned (gev (act x t wn).1.1 (act x t wn).1.2.1 (act x t wn).1.2.2) ∧ Gt (k + 1) w' (act x t wn).2 ∧ Mod S W w'
/-- What a run comes to: the gate, what each thread's plan has kept, what came out. -/
structure RunS (X : Type) where
  x : X
  m : Int → Wn
  out : List Ev3
def runStep {X : Type} (st : X → Int → Int) (act : X → Int → Int → Ev3 × X) (ps : List Pl) (r : RunS X) (t : Int) : RunS X :=
  ⟨(act r.x t (wantS (planOf ps t) (r.m t) (st r.x t)).1).2, fun u => if u = t then (wantS (planOf ps t) (r.m t) (st r.x t)).2 else r.m u, r.out ++ [(act r.x t (wantS (planOf ps t) (r.m t) (st r.x t)).1).1]⟩
def runL {X : Type} (st : X → Int → Int) (act : X → Int → Int → Ev3 × X) (ps : List Pl) (x : X) (picks : List Int) : RunS X := picks.foldl (runStep st act ps) ⟨x, fun _ => wn0, []⟩
theorem runL_take {X : Type} (st : X → Int → Int) (act : X → Int → Int → Ev3 × X) (ps : List Pl) (x : X) (picks : List Int) {k : Nat} (h : k < picks.length) : runL st act ps x (picks.take (k + 1)) = runStep st act ps (runL st act ps x (picks.take k)) picks[k] := by
  unfold runL
  rw [List.take_succ_eq_append_getElem h, List.foldl_append]
  rfl
/-- Each thread's closure lies at its own place, from L on. -/
structure Clos (W : World) (L : Nat) (ps : List Pl) (F : Int → Option Nat) (m : Int → Wn) (k : Nat) : Prop where
  at_ : ∀ t B, F t = some B → L ≤ B ∧ CloAt W B (planOf ps t) (m t)
  no : ∀ t, F t = none → m t = wn0
  apart : ∀ t u B B', t ≠ u → F t = some B → F u = some B' → B + 4 ≤ B' ∨ B' + 4 ≤ B
  num : ∀ t, (0 ≤ (m t).pk ∧ (m t).pk ≤ k) ∧ (0 ≤ (m t).as_ ∧ (m t).as_ ≤ k)
theorem Clos.mod {W W' : World} {L : Nat} {ps : List Pl} {F : Int → Option Nat} {m : Int → Wn} {k : Nat} (h : Clos W L ps F m k) {S : List Nat} (hm : Mod S W W') (hS : ∀ q ∈ S, q < L ∨ ∀ t B, F t = some B → q < B ∨ B + 4 ≤ q) : Clos W' L ps F m k :=
  ⟨fun t B hF => ⟨(h.at_ t B hF).1, (h.at_ t B hF).2.mod hm fun q hq => by
    have hL := (h.at_ t B hF).1
    rcases hS q hq with hq | hq
    · left; omega
    · exact hq t B hF⟩, h.no, h.apart, h.num⟩
theorem wantT_num (pl : Pl) (pk as_ st : Int) : (wantT pl pk as_ st).2.pk = pk ∧ ((wantT pl pk as_ st).2.as_ = as_ ∨ (wantT pl pk as_ st).2.as_ = as_ + 1) := by
  unfold wantT
  split
  · exact ⟨rfl, .inr rfl⟩
  · split
    · exact ⟨rfl, .inl rfl⟩
    · exact ⟨rfl, .inl rfl⟩
theorem num_step {pl : Pl} {x : Wn} {st : Int} {k : Nat} (h : (0 ≤ x.pk ∧ x.pk ≤ k) ∧ (0 ≤ x.as_ ∧ x.as_ ≤ k)) : (0 ≤ (wantS pl x st).2.pk ∧ (wantS pl x st).2.pk ≤ (k + 1 : Nat)) ∧ (0 ≤ (wantS pl x st).2.as_ ∧ (wantS pl x st).2.as_ ≤ (k + 1 : Nat)) := by
  unfold wantS
  obtain ⟨q, hq, hq0, hq1⟩ : ∃ q, (if st = x.ws then x.pk else 0) = q ∧ 0 ≤ q ∧ q ≤ k := ⟨_, rfl, by split <;> omega, by split <;> omega⟩
  rw [hq]
  obtain ⟨h1, h2⟩ := wantT_num pl (q + 1) x.as_ st
  rw [h1]
  omega
/-- A thread's closure has been called. -/
theorem Clos.call {W W' : World} {L : Nat} {ps : List Pl} {F : Int → Option Nat} {m : Int → Wn} {k : Nat} (h : Clos W L ps F m k) {t : Int} {B : Nat} (hF : F t = some B) {x : Wn} (hx : CloAt W' B (planOf ps t) x) (hm : Mod [B + 1, B + 2, B + 3] W W') (hn : (0 ≤ x.pk ∧ x.pk ≤ (k + 1 : Nat)) ∧ (0 ≤ x.as_ ∧ x.as_ ≤ (k + 1 : Nat))) : Clos W' L ps F (fun u => if u = t then x else m u) (k + 1) := by
  refine ⟨fun u B' hu => ?_, fun u hu => ?_, h.apart, fun u => ?_⟩
  · by_cases e : u = t
    · subst e
      rw [hF] at hu
      injection hu with hu
      subst hu
      simp only [if_true]
      exact ⟨(h.at_ _ _ hF).1, hx⟩
    · simp only [if_neg e]
      refine ⟨(h.at_ u B' hu).1, (h.at_ u B' hu).2.mod hm fun q hq => ?_⟩
      have := h.apart u t B' B e hu hF
      simp at hq
      omega
  · by_cases e : u = t
    · subst e
      rw [hF] at hu
      cases hu
    · simp only [if_neg e]
      exact h.no u hu
  · by_cases e : u = t
    · subst e
      simp only [if_true]
      exact hn
    · simp only [if_neg e]
      have := h.num u
      omega
/-- A thread gets its closure. -/
theorem Clos.fresh {W W' : World} {L : Nat} {ps : List Pl} {F : Int → Option Nat} {m : Int → Wn} {k : Nat} (h : Clos W L ps F m k) {t : Int} (hF : F t = none) (hL : L ≤ W.heap.size) {B : Nat} (hB : W.heap.size ≤ B) (hm : Below W.heap.size W W') (hx : CloAt W' B (planOf ps t) wn0) : Clos W' L ps (fun u => if u = t then some B else F u) m k := by
  have hlt : ∀ u B', F u = some B' → B' + 4 ≤ W.heap.size := fun u B' hu => (h.at_ u B' hu).2.lt
  refine ⟨fun u B' hu => ?_, fun u hu => ?_, fun u v B1 B2 hne h1 h2 => ?_, h.num⟩
  · by_cases e : u = t
    · subst e
      simp only [if_true] at hu
      injection hu with hu
      subst hu
      rw [h.no _ hF]
      exact ⟨by omega, hx⟩
    · simp only [if_neg e] at hu
      exact ⟨(h.at_ u B' hu).1, (h.at_ u B' hu).2.mod (Mod.of_below (S := []) hm) (by simp)⟩
  · by_cases e : u = t
    · subst e
      simp only [if_true] at hu
      cases hu
    · simp only [if_neg e] at hu
      exact h.no u hu
  · by_cases e1 : u = t
    · by_cases e2 : v = t
      · omega
      · simp only [if_pos e1] at h1
        simp only [if_neg e2] at h2
        injection h1 with h1
        have := hlt v B2 h2
        omega
    · simp only [if_neg e1] at h1
      by_cases e2 : v = t
      · simp only [if_pos e2] at h2
        injection h2 with h2
        have := hlt u B1 h1
        omega
      · simp only [if_neg e2] at h2
        exact h.apart u v B1 B2 hne h1 h2
theorem own_mod {B : Nat} {e : TypeId} {size : Nat} {v : Value} {n : Nat} {xs : List Value} {S : List Nat} {W W' : World} (h : W.ownsRow B e size v n xs) (hm : Mod S W W') (hS : ∀ q ∈ S, q < B ∨ ∀ b, v.ownBlock = some b → q ≠ b) : W'.ownsRow B e size v n xs := by
  obtain ⟨h1, h2⟩ := h
  refine ⟨h1, ?_⟩
  rcases h2 with h2 | ⟨g, cap, cur, rfl, hg, hb, rest⟩
  · exact .inl h2
  · refine .inr ⟨g, cap, cur, rfl, hg, hm.blk hb (fun hq => ?_), rest⟩
    rcases hS g hq with h | h
    · omega
    · exact h g rfl rfl
variable {X : Type} (gp : Value) (Gt : Nat → World → X → Prop) (st : X → Int → Int) (act : X → Int → Int → Ev3 × X) (S : List Nat)
/-- The run's own state in memory: what came out, the map, the closures, the gate. -/
structure RW (ps : List Pl) (k : Nat) (v : Value) (F : Int → Option Nat) (r : RunS X) (n : Nat) (w W : World) : Prop where
  own : W.ownsRow (w.heap.size + 1) 65 4 v k (r.out.flatMap decEv)
  fm : FM W w.heap.size n F
  clos : Clos W (w.heap.size + 1) ps F r.m k
  gt : Gt k W r.x
  mod : Mod S w W
  sz : w.heap.size + 1 ≤ W.heap.size
theorem FM.mono {W : World} {mb n n' : Nat} {F : Int → Option Nat} (h : FM W mb n F) (hn : n ≤ n') : FM W mb n' F := by
  obtain ⟨D, h1, h2⟩ := h
  exact ⟨D, h1.mono hn, h2⟩
theorem RW.more {Gt : Nat → World → X → Prop} {S : List Nat} {ps : List Pl} {k : Nat} {v : Value} {F : Int → Option Nat} {r : RunS X} {n : Nat} {w W : World} (h : RW Gt S ps k v F r n w W) : RW Gt S ps k v F r (n + 1) w W := ⟨h.own, h.fm.mono (Nat.le_succ _), h.clos, h.gt, h.mod, h.sz⟩
def RJ (ps : List Pl) (Aq : Option Addr) (cp : Nat) (l : List Int) (A : Option Addr) (cap : Nat) (x0 : X) (w : World) (a : Act) (W : World) : Prop :=
  a.tmps.size = 56 ∧ a.defers = [] ∧ a.tmps.getD 0 undef = gp ∧ a.tmps.getD 1 undef = .slice Aq ps.length cp ∧ a.tmps.getD 7 undef = .map (some w.heap.size) ∧ a.tmps.getD 13 undef = .slice A l.length cap ∧ a.tmps.getD 14 undef = .int .i64 (l.length : Int) ∧ ∃ (k : Nat) (v : Value) (F : Int → Option Nat), a.tmps.getD 8 undef = v ∧ a.tmps.getD 15 undef = .int .i64 (k : Int) ∧ k ≤ l.length ∧ RW Gt S ps k v F (runL st act ps x0 (l.take k)) k w W
def RC (ps : List Pl) (Aq : Option Addr) (cp : Nat) (l : List Int) (A : Option Addr) (cap : Nat) (k : Nat) (t : Int) (v : Value) (r : RunS X) (w : World) (a : Act) (W : World) : Prop :=
  a.tmps.size = 56 ∧ a.defers = [] ∧ a.tmps.getD 0 undef = gp ∧ a.tmps.getD 1 undef = .slice Aq ps.length cp ∧ a.tmps.getD 7 undef = .map (some w.heap.size) ∧ a.tmps.getD 8 undef = v ∧ a.tmps.getD 10 undef = .int .i64 t ∧ a.tmps.getD 13 undef = .slice A l.length cap ∧ a.tmps.getD 14 undef = .int .i64 (l.length : Int) ∧ a.tmps.getD 15 undef = .int .i64 (k : Int) ∧ ∃ (F : Int → Option Nat) (B : Nat), F t = some B ∧ RW Gt S ps k v F r (k + 1) w W
def R5 (ps : List Pl) (Aq : Option Addr) (cp : Nat) (l : List Int) (A : Option Addr) (cap : Nat) (k : Nat) (t : Int) (v : Value) (w W0 : World) (a : Act) (W : World) : Prop :=
  a.tmps.size = 56 ∧ a.defers = [] ∧ a.tmps.getD 0 undef = gp ∧ a.tmps.getD 1 undef = .slice Aq ps.length cp ∧ a.tmps.getD 7 undef = .map (some w.heap.size) ∧ a.tmps.getD 8 undef = v ∧ a.tmps.getD 10 undef = .int .i64 t ∧ a.tmps.getD 13 undef = .slice A l.length cap ∧ a.tmps.getD 14 undef = .int .i64 (l.length : Int) ∧ a.tmps.getD 15 undef = .int .i64 (k : Int) ∧ W = W0
theorem clo_nil (B : Nat) (W : World) : (binOp .eql 37 (clo B) .nilFunc).run Tryz.prog W = .ok (.bool false) W := by
  unfold clo
  kernel_rfl
theorem nil_nil (W : World) : (binOp .eql 37 .nilFunc .nilFunc).run Tryz.prog W = .ok (.bool true) W := by
  kernel_rfl
theorem clo_g (x y : Operand) (B : Nat) (W : World) : (eqGuard .eql 37 x y (clo B) .nilFunc).run Tryz.prog W = .ok () W := by
  unfold clo
  kernel_rfl
theorem mod_below {S : List Nat} {a b c : World} (h : Mod S a b) (hb : Below a.heap.size b c) : Mod S a c :=
  ⟨hb.os.trans h.os, hb.tape.trans h.tape, hb.output.trans h.output, Nat.le_trans h.size hb.size, fun k hk hn => (hb.block k hk).trans (h.block k hk hn)⟩
theorem RW.fresh {X : Type} {gp : Value} {Gt : Nat → World → X → Prop} {st : X → Int → Int} {act : X → Int → Int → Ev3 × X} {S : List Nat} {ps : List Pl} {k : Nat} {v : Value} {F : Int → Option Nat} {r : RunS X} {w W w2 w3 : World} (hG : GI gp X Gt st act S w.heap.size) (h : RW Gt S ps k v F r k w W) {t : Int} (hF : F t = none) {B : Nat} (hB : W.heap.size ≤ B) (hb : Below W.heap.size W w2) (hc : CloAt w2 B (planOf ps t) wn0)
    (hfm : FM w3 w.heap.size (k + 1) fun u => if u = t then some B else F u) (hm : Mod [w.heap.size] w2 w3) : RW Gt S ps k v (fun u => if u = t then some B else F u) r (k + 1) w w3 := by
  have hz := h.sz
  have hz2 := hb.size
  have hb3 : Below w.heap.size W w3 := (hb.mono (by omega)).trans (hm.below (by omega) (by simp))
  refine ⟨own_mod (own_mod h.own (Mod.of_below (S := []) hb) (by simp)) hm (by simp), hfm, (h.clos.fresh hF (by omega) hB hb hc).mod hm (by simp), hG.keep _ _ _ _ h.gt hb3, mod_below h.mod hb3, ?_⟩
  have := hm.size
  omega
theorem RW.same {Gt : Nat → World → X → Prop} {S : List Nat} {gp : Value} {st : X → Int → Int} {act : X → Int → Int → Ev3 × X} {ps : List Pl} {k : Nat} {v : Value} {F : Int → Option Nat} {r : RunS X} {n : Nat} {w W W' : World} (hG : GI gp X Gt st act S w.heap.size) (h : RW Gt S ps k v F r n w W) (hb : Below W.heap.size W W') : RW Gt S ps k v F r n w W' := by
  have hz := h.sz
  have hz2 := hb.size
  exact ⟨own_mod h.own (Mod.of_below (S := []) hb) (by simp), h.fm.mod (Mod.of_below (S := []) hb) (by simp), h.clos.mod (Mod.of_below (S := []) hb) (by simp), hG.keep _ _ _ _ h.gt (hb.mono (by omega)), mod_below h.mod (hb.mono (by omega)), by omega⟩
theorem own_apart {W : World} {base : Nat} {v : Value} {n : Nat} {xs : List Value} {B : Nat} {pl : Pl} {x : Wn} (h : W.ownsRow base 65 4 v n xs) (hc : CloAt W B pl x) {q : Nat} (hq : v.ownBlock = some q) : q < B ∨ B + 4 ≤ q := by
  rcases h.2 with ⟨rfl, _⟩ | ⟨g, cap, cur, rfl, _, hb, _⟩
  · cases hq
  · have e : g = q := by simpa [Value.ownBlock] using hq
    subst e
    have n0 : g ≠ B := fun e => by subst e; have := hb.symm.trans hc.b0; simp at this
    have n1 : g ≠ B + 1 := fun e => by subst e; have := hb.symm.trans hc.b1; simp at this
    have n2 : g ≠ B + 2 := fun e => by subst e; have := hb.symm.trans hc.b2; simp at this
    have n3 : g ≠ B + 3 := fun e => by subst e; have := hb.symm.trans hc.b3; simp at this
    omega
/-- A closure has been called: the state between. -/
structure RW2 (ps : List Pl) (k : Nat) (v : Value) (F : Int → Option Nat) (out : List Ev3) (m : Int → Wn) (x : X) (k2 : Nat) (w W : World) : Prop where
  own : W.ownsRow (w.heap.size + 1) 65 4 v k (out.flatMap decEv)
  fm : FM W w.heap.size (k + 1) F
  clos : Clos W (w.heap.size + 1) ps F m (k + 1)
  gt : Gt k2 W x
  mod : Mod S w W
  sz : w.heap.size + 1 ≤ W.heap.size
theorem RW.call {Gt : Nat → World → X → Prop} {S : List Nat} {gp : Value} {st : X → Int → Int} {act : X → Int → Int → Ev3 × X} {ps : List Pl} {k : Nat} {v : Value} {F : Int → Option Nat} {r : RunS X} {w W W' : World} (hG : GI gp X Gt st act S w.heap.size) (h : RW Gt S ps k v F r (k + 1) w W) {t : Int} {B : Nat} (hF : F t = some B) (s : Int) (hx : CloAt W' B (planOf ps t) (wantS (planOf ps t) (r.m t) s).2) (hm : Mod [B + 1, B + 2, B + 3] W W') : RW2 Gt S ps k v F r.out (fun u => if u = t then (wantS (planOf ps t) (r.m t) s).2 else r.m u) r.x k w W' := by
  have hz := h.sz
  obtain ⟨hL, hc⟩ := h.clos.at_ t B hF
  have hb : Below w.heap.size W W' := hm.below (by omega) (by simp; omega)
  refine ⟨own_mod h.own hm (fun q hq => .inr fun b hb e => ?_), h.fm.mod hm (by simp; omega), h.clos.call hF hx hm (num_step (h.clos.num t)), hG.keep _ _ _ _ h.gt hb, mod_below h.mod hb, Nat.le_trans hz hm.size⟩
  subst e
  have := own_apart h.own hc hb
  simp at hq
  omega
theorem RW2.did {Gt : Nat → World → X → Prop} {S : List Nat} {ps : List Pl} {k : Nat} {v : Value} {F : Int → Option Nat} {out : List Ev3} {m : Int → Wn} {x x' : X} {k2 k3 : Nat} {w W W' : World} (h : RW2 Gt S ps k v F out m x k2 w W) (hS : ∀ q ∈ S, q < w.heap.size) (hg : Gt k3 W' x') (hm : Mod S W W') : RW2 Gt S ps k v F out m x' k3 w W' :=
  ⟨own_mod h.own hm (fun q hq => .inl (by have := hS q hq; omega)), h.fm.mod hm (fun hq => by have := hS _ hq; omega), h.clos.mod hm (fun q hq => .inl (by have := hS q hq; omega)), hg, h.mod.trans hm, Nat.le_trans h.sz hm.size⟩
theorem RW2.app {Gt : Nat → World → X → Prop} {S : List Nat} {gp : Value} {st : X → Int → Int} {act : X → Int → Int → Ev3 × X} {ps : List Pl} {k : Nat} {v v' : Value} {F : Int → Option Nat} {out : List Ev3} {m : Int → Wn} {x : X} {w W W' : World} (hG : GI gp X Gt st act S w.heap.size) (h : RW2 Gt S ps k v F out m x (k + 1) w W) (ev : Ev3) (ho : W'.ownsRow (w.heap.size + 1) 65 4 v' (k + 1) (out.flatMap decEv ++ decEv ev)) (hb : Below (w.heap.size + 1) W W') (hg : W.grownBy W' v.ownBlock) : RW Gt S ps (k + 1) v' F ⟨x, m, out ++ [ev]⟩ (k + 1) w W' := by
  have hm : Mod v.ownBlock.toList W W' := ⟨hg.os, hg.tape, hg.output, hg.size, fun q hq hn => hg.block q hq (fun e => hn (by rw [← e]; simp))⟩
  have hb' := hb.mono (Nat.le_succ w.heap.size)
  refine ⟨by rw [List.flatMap_append]; simpa using ho, h.fm.blk (hb.block _ (by omega)), h.clos.mod hm (fun q hq => .inr fun t B hF => own_apart h.own (h.clos.at_ t B hF).2 (by simpa using hq)), hG.keep _ _ _ _ h.gt hb', mod_below h.mod hb', Nat.le_trans h.sz hb.size⟩
theorem infoE : (Tryz.prog.info? 65).map (fun i => (i.zero, i.size, i.bytes)) = some (some (.agg #[.int .i64 0, .int .i64 0, .bool false, .int .i64 0]), 4, 32) := by kernel_rfl
set_option maxRecDepth 100000 in
set_option maxHeartbeats 4000000 in
theorem run_any (w : World) (hG : GI gp X Gt st act S w.heap.size) (ps : List Pl) (Aq : Option Addr) (cp : Nat) (hp : ps.length ≤ 1000) (hsp : ∀ W, Mod S w W → Sl W w.heap.size Aq (ps.flatMap decPl)) (l : List Int) (A : Option Addr) (cap : Nat) (hl : l.length ≤ 1000) (hwf : ∀ t ∈ l, isI t) (hsl : ∀ W, Mod S w W → Sl W w.heap.size A (l.flatMap decI)) (x0 : X) (hx0 : Gt 0 w x0) :
    Calls Tryz.prog 39 #[gp, .slice Aq ps.length cp, .slice A l.length cap] w fun e w' => ∃ B c, e = .returned (.slice B l.length c) ∧ w'.ownsRow (w.heap.size + 1) 65 4 (.slice B l.length c) l.length ((runL st act ps x0 l).out.flatMap decEv) ∧ Gt l.length w' (runL st act ps x0 l).x ∧ Mod S w w' := by
  have HS := Lib.hid hsl
  have HP := Lib.hid hsp
  have HWF := Lib.hid hwf
  have HGI := Lib.hid hG
  have HX := Lib.hid hx0
  have hmm := @run_makeMap Tryz.prog
  clear hsl hsp hwf hG hx0
  go_enter Tryz.func39, Tryz.ntmps39
  go_wp2_with fail
  refine wp_loop (RJ gp Gt st act S ps Aq cp l A cap x0 w) (fun a' _ => l.length - (intOf (a'.tmps.getD 15 undef)).toNat) ?_ ?_
  · exact ⟨rfl, rfl, rfl, rfl, rfl, rfl, rfl, 0, _, fun _ => none, rfl, rfl, Nat.zero_le _, World.ownsRow_nil _ _ _ _, FM.made w, ⟨fun _ _ h => (by cases h), fun _ _ => rfl, fun _ _ _ _ _ h => (by cases h), fun _ => (by simp [runL, wn0])⟩, HGI.out.keep _ _ _ _ HX.out (below_new _ _), Mod.of_below (below_new _ _), by simp⟩
  · rintro a' W ⟨hsz, hdf, s0, s1, s7, s13, s14, k, v, F, s8, s15, hk, hR⟩
    obtain ⟨u, rfl, hu⟩ := frame56 hsz hdf
    rw [hu] at s0 s1 s7 s13 s14 s8 s15
    simp only [s0, s1, s7, s13, s14, s8, s15]
    clear hsz hdf s0 s1 s7 s13 s14 s8 s15 hu
    have HR := Lib.hid hR
    clear hR
    by_cases hlt : k < l.length
    · have hst := runL_take st act ps x0 l hlt
      have ht := HWF.out _ (List.getElem_mem hlt)
      obtain ⟨b, off, rfl, hbb, hcell⟩ := Sl_at (k := 1) (fun _ => rfl) (by omega) (HS.out _ HR.out.mod) (by omega)
      have c0 := hcell k hlt 0 (by omega)
      simp only [decI, List.getElem?_cons_zero, Nat.mul_one, Nat.add_zero] at c0
      have HST := Lib.hid hst
      have HT := Lib.hid ht
      have i1 : (k : Int) < (l.length : Int) := by omega
      clear hcell hst ht HX
      generalize l[k] = t at *
      generalize runL st act ps x0 (l.take k) = r at *
      go_upto_region 5 with fail
      refine wp_cut (R5 gp ps Aq cp l (some ⟨b, off, none⟩) cap k t v w W) ?_ ?_
      · rintro a' W0 ⟨hsz, hdf, s0, s1, s7, s8, s10, s13, s14, s15, hW0⟩
        obtain rfl := hW0
        obtain ⟨u, rfl, hu⟩ := frame56 hsz hdf
        rw [hu] at s0 s1 s7 s8 s10 s13 s14 s15
        simp only [s0, s1, s7, s8, s10, s13, s14, s15]
        clear hsz hdf s0 s1 s7 s8 s10 s13 s14 s15 hu
        rename_i hK0
        refine hK0 _ _ ?_
        refine wp_seq_k fun K1 hK1 => ?_
        refine wp_cut (RC gp Gt S ps Aq cp l (some ⟨b, off, none⟩) cap k t v r w) ?_ ?_
        · rintro a' W2 ⟨hsz, hdf, s0, s1, s7, s8, s10, s13, s14, s15, F2, B, hF, hR2⟩
          refine hK1 _ _ ?_
          obtain ⟨u, rfl, hu⟩ := frame56 hsz hdf
          rw [hu] at s0 s1 s7 s8 s10 s13 s14 s15
          simp only [s0, s1, s7, s8, s10, s13, s14, s15]
          clear hsz hdf s0 s1 s7 s8 s10 s13 s14 s15 hu
          have HR2 := Lib.hid (hR2.same HGI.out (show Below W2.heap.size W2 W2.drew from Below.drew (Below.refl _ _)))
          have hlk := HR2.out.fm.look1 HT.out hF
          clear hR2
          refine wp_region_held_drew (S := fun V => (Instr.lookup 152 (.map (some w.heap.size)) (.int .i64 t) false).run Tryz.prog V = .ok (clo B) V) (by kernel_rfl) hlk (fun hHeld => ?_)
          refine take_to 0 (some 40) (v := ?_) rfl rfl (by kernel_rfl) (by kernel_rfl) (by kernel_rfl) (fun _ _ _ h => h) (Or.inl ⟨by rfl, ?_⟩) (by first | trivial | assumption) ?_
          rotate_left
          focus (intro w hSw; (try dsimp only at hSw); go_simp; (try with_reducible rfl))
          simp only [Act.put, List.setIfInBounds_toArray, List.set_cons_zero, List.set_cons_succ]
          refine take_to 1 (some 41) (v := ?_) rfl rfl (by kernel_rfl) (by kernel_rfl) (by kernel_rfl) (fun _ _ _ h => h) (Or.inl ⟨by rfl, ?_⟩) (by first | trivial | assumption) ?_
          rotate_left
          focus (intro w hSw; (try dsimp only at hSw); go_simp; (try with_reducible rfl))
          simp only [Act.put, List.setIfInBounds_toArray, List.set_cons_zero, List.set_cons_succ]
          refine take_to 2 (some 42) (v := ?_) rfl rfl (by kernel_rfl) (by kernel_rfl) (by kernel_rfl) (fun _ _ _ h => h) (Or.inl ⟨by rfl, ?_⟩) (by first | trivial | assumption) ?_
          rotate_left
          focus (intro w hSw; (try dsimp only at hSw); go_simp; (try with_reducible rfl))
          simp only [Act.put, List.setIfInBounds_toArray, List.set_cons_zero, List.set_cons_succ]
          refine take_to 3 (some 43) (v := ?_) rfl rfl (by kernel_rfl) (by kernel_rfl) (by kernel_rfl) (fun _ _ _ h => h) (Or.inl ⟨by rfl, ?_⟩) (by first | trivial | assumption) ?_
          rotate_left
          focus (intro w hSw; (try dsimp only at hSw); go_simp; (try with_reducible rfl))
          simp only [Act.put, List.setIfInBounds_toArray, List.set_cons_zero, List.set_cons_succ]
          refine take_to 4 (some 44) (v := ?_) rfl rfl (by kernel_rfl) (by kernel_rfl) (by kernel_rfl) (fun _ _ _ h => h) (Or.inl ⟨by rfl, ?_⟩) (by first | trivial | assumption) ?_
          rotate_left
          focus (intro w hSw; (try dsimp only at hSw); go_simp; (try with_reducible rfl))
          simp only [Act.put, List.setIfInBounds_toArray, List.set_cons_zero, List.set_cons_succ]
          refine take_to 5 (some 45) (v := ?_) rfl rfl (by kernel_rfl) (by kernel_rfl) (by kernel_rfl) (fun _ _ _ h => h) (Or.inl ⟨by rfl, ?_⟩) (by first | trivial | assumption) ?_
          rotate_left
          focus (intro w hSw; (try dsimp only at hSw); go_simp; (try with_reducible rfl))
          simp only [Act.put, List.setIfInBounds_toArray, List.set_cons_zero, List.set_cons_succ]
          refine take_to 6 (some 46) (v := ?_) rfl rfl (by kernel_rfl) (by kernel_rfl) (by kernel_rfl) (fun _ _ _ h => h) (Or.inl ⟨by rfl, ?_⟩) (by first | trivial | assumption) ?_
          rotate_left
          focus (intro w hSw; (try dsimp only at hSw); go_simp; (try with_reducible rfl))
          simp only [Act.put, List.setIfInBounds_toArray, List.set_cons_zero, List.set_cons_succ]
          refine take_to 7 (some 47) (v := ?_) rfl rfl (by kernel_rfl) (by kernel_rfl) (by kernel_rfl) (fun _ _ _ h => h) (Or.inl ⟨by rfl, ?_⟩) (by first | trivial | assumption) ?_
          rotate_left
          focus (intro w hSw; (try dsimp only at hSw); go_simp; (try with_reducible rfl))
          simp only [Act.put, List.setIfInBounds_toArray, List.set_cons_zero, List.set_cons_succ]
          refine wpAnyH_ready (rs := [8]) (by kernel_rfl) (by simp) ?_
          refine AllReadyH.cons rfl (fun K hK => ?_) AllReadyH.nil
          go_simp
          refine (HGI.out.state k _ _ t HR2.out.gt).mono ?_
          rintro e w3 ⟨rfl, hb3⟩
          have HR3 := Lib.hid (HR2.out.same HGI.out hb3)
          have hlk3 := HR3.out.fm.look1 HT.out hF
          have hcl3 := HR3.out.clos.at_ t B hF
          have hnum := HR3.out.clos.num t
          clear hb3 HR2 hlk
          go_simp
          refine hK.out _ _ hlk3 (fun hHeld => ?_)
          refine wpAnyH_ready (rs := [9]) (by kernel_rfl) (by simp) ?_
          refine AllReadyH.cons rfl (fun K hK => ?_) AllReadyH.nil
          go_simp
          simp only [clo]
          go_simp
          refine (clo_any B (planOf ps t) (r.m t) w3 hcl3.2 (by omega) (by omega) (st r.x t)).mono ?_
          rintro e w4 ⟨rfl, hc4, hm4⟩
          have HR4 := Lib.hid (HR3.out.call HGI.out hF (st r.x t) hc4 hm4)
          have hlk4 := HR4.out.fm.look1 HT.out hF
          clear HR3 hc4 hm4 hcl3 hnum hlk3
          go_simp
          refine hK.out _ _ hlk4 (fun hHeld => ?_)
          refine take_to 10 (some 50) (v := ?_) rfl rfl (by kernel_rfl) (by kernel_rfl) (by kernel_rfl) (fun _ _ _ h => h) (Or.inl ⟨by rfl, ?_⟩) (by first | trivial | assumption) ?_
          rotate_left
          focus (intro w hSw; (try dsimp only at hSw); go_simp; (try with_reducible rfl))
          simp only [Act.put, List.setIfInBounds_toArray, List.set_cons_zero, List.set_cons_succ]
          refine wpAnyH_ready (rs := [11]) (by kernel_rfl) (by simp) ?_
          refine AllReadyH.cons rfl (fun K hK => ?_) AllReadyH.nil
          go_simp
          refine (HGI.out.doit k _ _ t _ (by omega) HR4.out.gt).mono ?_
          rintro e w5 ⟨rfl, hg5, hm5⟩
          have HR5 := Lib.hid (HR4.out.did HGI.out.lt hg5 hm5)
          have hlk5 := HR5.out.fm.look1 HT.out hF
          clear HR4 hg5 hm5 hlk4
          have HST2 := HST.out
          unfold runStep at HST2
          replace HST2 := Lib.hid HST2
          generalize act r.x t (wantS (planOf ps t) (r.m t) (st r.x t)).1 = ax at *
          obtain ⟨⟨ek, et, ec⟩, x2⟩ := ax
          simp only [gev] at HST2 HR5 ⊢
          go_simp
          refine hK.out _ _ hlk5 (fun hHeld => ?_)
          refine wpAnyH_ready (rs := [12]) (by kernel_rfl) (by simp) ?_
          refine AllReadyH.cons rfl (fun K hK => ?_) AllReadyH.nil
          go_simp
          have hfm5 := (HR5.out.fm.mod (Mod.of_below (S := []) (below_new w5 (.cells #[.int .i64 ek, .int .i64 et, .bool false, .int .i64 ec] 65))) (by simp)).look1 HT.out hF
          refine hK.out _ _ hfm5 (fun hHeld => ?_)
          refine wpAnyH_ready (rs := [13]) (by kernel_rfl) (by simp) ?_
          refine AllReadyH.cons rfl (fun K hK => ?_) AllReadyH.nil
          refine wp_append1 (.tmp 40) (.tmp 52) 75 65 _ 4 32 rfl Tryz.underlying75 infoE rfl (by decide) (w.heap.size + 1) w5 v k _ _ _ _ _ HR5.out.own rfl rfl rfl rfl (by simp [Value.oneCell']) (by simp only [maxLen]; omega) (by omega) HR5.out.sz (fun v' w6 hown6 hb6 hg6 => ?_)
          have HR6 := Lib.hid (HR5.out.app HGI.out (ek, et, ec) hown6.out hb6.out hg6.out)
          rw [← HST2.out] at HR6
          have hlk6 := HR6.out.fm.look1 HT.out hF
          clear hown6 hb6 hg6 HR5 hlk5 hfm5 HST2 HST
          simp only [Act.put, List.setIfInBounds_toArray, List.set_cons_zero, List.set_cons_succ]
          refine hK.out _ _ hlk6 (fun hHeld => ?_)
          refine take_to 14 (some 8) (v := ?_) rfl rfl (by kernel_rfl) (by kernel_rfl) (by kernel_rfl) (fun _ _ _ h => h) (Or.inl ⟨by rfl, ?_⟩) (by first | trivial | assumption) ?_
          rotate_left
          focus (intro w hSw; (try dsimp only at hSw); go_simp; (try with_reducible rfl))
          simp only [Act.put, List.setIfInBounds_toArray, List.set_cons_zero, List.set_cons_succ]
          refine wpAnyH_done (by kernel_rfl) ?_ _
          go_wp2_with fail
          go_roundw
          case rel => exact ⟨rfl, rfl, rfl, rfl, rfl, rfl, rfl, k + 1, v', F2, rfl, by go_num, by omega, HR6.out⟩
          case measure => simp [intOf]; omega
        · intro J K' hJ hK'
          cases hF : F t with
          | none =>
            have h0 := HR.out.fm.look0 HT.out hF
            have h1 := nil_nil W0
            have hmod0 := HR.out.mod
            by_cases hin : 0 ≤ t ∧ t < (ps.length : Int)
            · obtain ⟨T, rfl⟩ := Int.eq_ofNat_of_zero_le hin.1
              have hT : T < ps.length := by omega
              obtain ⟨bq, oq, rfl, hbq, hcq⟩ := Sl_at (k := 4) (fun _ => rfl) (by omega) (HP.out _ hmod0) (by omega)
              have p0 := hcq T hT 0 (by omega)
              have p1 := hcq T hT 1 (by omega)
              have p2 := hcq T hT 2 (by omega)
              have p3 := hcq T hT 3 (by omega)
              simp only [decPl, List.getElem?_cons_zero, List.getElem?_cons_succ, Nat.add_zero, ← Nat.add_assoc] at p0 p1 p2 p3
              have HPL := Lib.hid (show planOf ps (T : Int) = ps[T] by unfold planOf; rw [if_pos hin, List.getD_eq_getElem?_getD, Int.toNat_natCast, List.getElem?_eq_getElem hT]; rfl)
              generalize ps[T] = pl at *
              obtain ⟨pr, pp, pt, pd⟩ := pl
              simp only at p0 p1 p2 p3
              have i2 : (T : Int) < (ps.length : Int) := by omega
              have hbz : bq < W0.heap.size := by have := HR.out.sz; omega
              have i3 : (0 : Int) ≤ (T : Int) := by omega
              clear hcq hin hmod0
              go_wp2_with fail
              have hzz : (W0.alloc (.cells #[.int .i64 pr, .int .i64 pp, .int .i64 pt, .bool pd] 149)).heap.size = W0.heap.size + 1 := by simp
              refine (wants_any ⟨pr, pp, pt, pd⟩ _).mono ?_
              rintro e w2 ⟨rfl, hcl, hb2, hz2⟩
              rw [← HPL.out] at hcl
              have hbn := below_new W0 (.cells #[.int .i64 pr, .int .i64 pp, .int .i64 pt, .bool pd] 149)
              have hb3 := hbn.trans (hb2.mono hbn.size)
              rw [hzz] at hcl ⊢
              obtain ⟨w3, hr3, hfm3, hm3⟩ := (HR.out.fm.mod (Mod.of_below (S := []) hb3) (by simp)).put (by omega) HT.out (W0.heap.size + 1)
              have HRW := Lib.hid (HR.out.fresh HGI.out hF (Nat.le_succ _) hb3 hcl hfm3 hm3)
              clear hcl hb2 hz2 hbn hb3 hfm3 hm3 hzz
              go_wp2_with fail
              exact Met.intro (hJ _ _ ⟨rfl, rfl, rfl, rfl, rfl, rfl, rfl, rfl, rfl, rfl, _, _, if_pos rfl, HRW.out⟩)
            · have HPL := Lib.hid (show planOf ps t = ⟨0, 0, 0, false⟩ by unfold planOf; rw [if_neg hin]; rfl)
              by_cases h3 : 0 ≤ t
              · have h4 : ¬ t < (ps.length : Int) := by omega
                have h5 : decide (t < (ps.length : Int)) = false := decide_eq_false h4
                clear hin hmod0
                go_wp2_with fail
                have hzz : (W0.alloc (.cells #[.int .i64 0, .int .i64 0, .int .i64 0, .bool false] 149)).heap.size = W0.heap.size + 1 := by simp
                refine (wants_any ⟨0, 0, 0, false⟩ _).mono ?_
                rintro e w2 ⟨rfl, hcl, hb2, hz2⟩
                rw [← HPL.out] at hcl
                have hbn := below_new W0 (.cells #[.int .i64 0, .int .i64 0, .int .i64 0, .bool false] 149)
                have hb3 := hbn.trans (hb2.mono hbn.size)
                rw [hzz] at hcl ⊢
                obtain ⟨w3, hr3, hfm3, hm3⟩ := (HR.out.fm.mod (Mod.of_below (S := []) hb3) (by simp)).put (by omega) HT.out (W0.heap.size + 1)
                have HRW := Lib.hid (HR.out.fresh HGI.out hF (Nat.le_succ _) hb3 hcl hfm3 hm3)
                clear hcl hb2 hz2 hbn hb3 hfm3 hm3 hzz
                go_wp2_with fail
                exact Met.intro (hJ _ _ ⟨rfl, rfl, rfl, rfl, rfl, rfl, rfl, rfl, rfl, rfl, _, _, if_pos rfl, HRW.out⟩)
              · have h5 : decide (0 ≤ t) = false := decide_eq_false h3
                clear hin hmod0
                go_wp2_with fail
                have hzz : (W0.alloc (.cells #[.int .i64 0, .int .i64 0, .int .i64 0, .bool false] 149)).heap.size = W0.heap.size + 1 := by simp
                refine (wants_any ⟨0, 0, 0, false⟩ _).mono ?_
                rintro e w2 ⟨rfl, hcl, hb2, hz2⟩
                rw [← HPL.out] at hcl
                have hbn := below_new W0 (.cells #[.int .i64 0, .int .i64 0, .int .i64 0, .bool false] 149)
                have hb3 := hbn.trans (hb2.mono hbn.size)
                rw [hzz] at hcl ⊢
                obtain ⟨w3, hr3, hfm3, hm3⟩ := (HR.out.fm.mod (Mod.of_below (S := []) hb3) (by simp)).put (by omega) HT.out (W0.heap.size + 1)
                have HRW := Lib.hid (HR.out.fresh HGI.out hF (Nat.le_succ _) hb3 hcl hfm3 hm3)
                clear hcl hb2 hz2 hbn hb3 hfm3 hm3 hzz
                go_wp2_with fail
                exact Met.intro (hJ _ _ ⟨rfl, rfl, rfl, rfl, rfl, rfl, rfl, rfl, rfl, rfl, _, _, if_pos rfl, HRW.out⟩)
          | some B =>
            have h0 := HR.out.fm.look1 HT.out hF
            have h1 := clo_nil B W0
            have h2 := fun x y => clo_g x y B W0
            go_wp2_with fail
            exact Met.intro (hJ _ _ ⟨rfl, rfl, rfl, rfl, rfl, rfl, rfl, rfl, rfl, rfl, F, B, hF, HR.out.more⟩)
      · intro J K' hJ hK'
        go_wp2_with fail
        exact Met.intro (hJ _ _ ⟨rfl, rfl, rfl, rfl, rfl, rfl, rfl, rfl, rfl, rfl, rfl⟩)
    · obtain rfl : k = l.length := by omega
      have i1 : ¬ (l.length : Int) < (l.length : Int) := by omega
      rw [List.take_length] at HR
      obtain ⟨B2, cb, rfl, _, _, hsl⟩ := own_slice HR.out.own
      clear hsl
      go_wp2_with fail
      go_ret
      exact ⟨B2, cb, rfl, HR.out.own, HR.out.gt, HR.out.mod⟩
end Go.Proofs.YthffhhgaeolpgaaGreat.Ga

/- Events, and the reference's Same. -/
namespace Go.Proofs.YthffhhgaeolpgaaGreat.Evs
open Go.RowKit Go.Proofs.YthffhhgaeolpgaaGreat.Ara

structure Ev where
  kind : Int
  th : Int
  rd : Bool
  ct : Int
deriving DecidableEq
def dE (e : Ev) : List Value := [.int .i64 e.kind, .int .i64 e.th, .bool e.rd, .int .i64 e.ct]
theorem infoE : (Tryz.prog.info? 65).map (fun i => (i.zero, i.size, i.bytes)) = some (some (.agg #[.int .i64 0, .int .i64 0, .bool false, .int .i64 0]), 4, 32) := by kernel_rfl
theorem sl_ev {w : World} {Bd : Nat} {A : Option Addr} {ps : List Ev} (h : Sl w Bd A (ps.flatMap dE)) {k : Nat} (hk : k < ps.length) : ∃ b off, A = some ⟨b, off, none⟩ ∧ b < Bd ∧ ∀ j (h : j < ps.length), w.cell? ⟨b, off + j * 4, none⟩ = some (.int .i64 ps[j].kind) ∧ w.cell? ⟨b, off + j * 4 + 1, none⟩ = some (.int .i64 ps[j].th) ∧ w.cell? ⟨b, off + j * 4 + 2, none⟩ = some (.bool ps[j].rd) ∧ w.cell? ⟨b, off + j * 4 + 3, none⟩ = some (.int .i64 ps[j].ct) := by
  obtain ⟨b, off, rfl, hb, hc⟩ := Sl_at (dec := dE) (k := 4) (fun _ => rfl) (by omega) h (by omega)
  refine ⟨b, off, rfl, hb, fun j hj => ?_⟩
  have h0 := hc j hj 0 (by omega)
  have h1 := hc j hj 1 (by omega)
  have h2 := hc j hj 2 (by omega)
  have h3 := hc j hj 3 (by omega)
  simp only [dE, List.getElem?_cons_zero, List.getElem?_cons_succ, Nat.add_zero, ← Nat.add_assoc] at h0 h1 h2 h3
  exact ⟨h0, h1, h2, h3⟩
set_option maxHeartbeats 8000000 in
theorem neE (a b d : Int) (c : Bool) (a' b' d' : Int) (c' : Bool) (W : World) : (binOp .neq 65 (.agg #[.int .i64 a, .int .i64 b, .bool c, .int .i64 d]) (.agg #[.int .i64 a', .int .i64 b', .bool c', .int .i64 d'])).run Tryz.prog W = .ok (.bool (!(a == a' && (b == b' && (c == c' && d == d'))))) W := by
  have hp : Tryz.prog.stoodInHeld 65 = false := by kernel_rfl
  have key : ∀ n, (Op.equalIn (n + 1 + 1) 65 (.agg #[.int .i64 a, .int .i64 b, .bool c, .int .i64 d]) (.agg #[.int .i64 a', .int .i64 b', .bool c', .int .i64 d'])).run Tryz.prog W = .ok (a == a' && (b == b' && (c == c' && d == d'))) W := by
    intro n
    simp only [Op.equalIn, Sem.run_bind, run_underlying Tryz.underlying65, Result.andThen_ok, run_program, hp, Bool.false_eq_true, if_false]
    rw [← Array.forIn_toList]
    simp [go_sem, Op.equalIn, Tryz.underlying3, Tryz.underlying4]
    by_cases h : a = a' <;> by_cases k : b = b' <;> by_cases l : c = c' <;> by_cases m : d = d' <;> simp [h, k, l, m, go_sem, Op.equalIn, Tryz.underlying3, Tryz.underlying4]
  have k := key 9998
  simp only [binOp]
  simp [Op.equal, Op.maxDepth, k]
theorem neGE (x y : Operand) (xs ys : Array Value) (W : World) : (eqGuard .neq 65 x y (.agg xs) (.agg ys)).run Tryz.prog W = .ok () W := by
  have hm : Tryz.prog.eqGuardType Tryz.prog.depth 65 = false := by kernel_rfl
  simp [eqGuard, run_program, hm]
set_option maxHeartbeats 8000000 in
theorem eqE (a b d : Int) (c : Bool) (a' b' d' : Int) (c' : Bool) (W : World) : (binOp .eql 65 (.agg #[.int .i64 a, .int .i64 b, .bool c, .int .i64 d]) (.agg #[.int .i64 a', .int .i64 b', .bool c', .int .i64 d'])).run Tryz.prog W = .ok (.bool (a == a' && (b == b' && (c == c' && d == d')))) W := by
  have hp : Tryz.prog.stoodInHeld 65 = false := by kernel_rfl
  have key : ∀ n, (Op.equalIn (n + 1 + 1) 65 (.agg #[.int .i64 a, .int .i64 b, .bool c, .int .i64 d]) (.agg #[.int .i64 a', .int .i64 b', .bool c', .int .i64 d'])).run Tryz.prog W = .ok (a == a' && (b == b' && (c == c' && d == d'))) W := by
    intro n
    simp only [Op.equalIn, Sem.run_bind, run_underlying Tryz.underlying65, Result.andThen_ok, run_program, hp, Bool.false_eq_true, if_false]
    rw [← Array.forIn_toList]
    simp [go_sem, Op.equalIn, Tryz.underlying3, Tryz.underlying4]
    by_cases h : a = a' <;> by_cases k : b = b' <;> by_cases l : c = c' <;> by_cases m : d = d' <;> simp [h, k, l, m, go_sem, Op.equalIn, Tryz.underlying3, Tryz.underlying4]
  have k := key 9998
  simp only [binOp]
  simp [Op.equal, Op.maxDepth, k]
theorem eqGE (x y : Operand) (xs ys : Array Value) (W : World) : (eqGuard .eql 65 x y (.agg xs) (.agg ys)).run Tryz.prog W = .ok () W := by
  have hm : Tryz.prog.eqGuardType Tryz.prog.depth 65 = false := by kernel_rfl
  simp [eqGuard, run_program, hm]
set_option maxHeartbeats 4000000 in
theorem esame_any (l k : List Ev) (A C : Option Addr) (c1 c2 : Nat) (w : World) (hm : l.length ≤ 4096) (hm2 : k.length ≤ 4096)
    (hs : Sl w w.heap.size A (l.flatMap dE)) (ht : Sl w w.heap.size C (k.flatMap dE)) :
    Calls Tryz.prog 70 #[.slice A l.length c1, .slice C k.length c2] w fun e w' => e = .returned (.bool (decide (l = k))) ∧ Below w.heap.size w w' := by
  by_cases hl : l.length = k.length
  · have hlb := nbeq hl
    have hlb2 := nbne_no hl
    have HL := Lib.hid hl
    clear hl
    go_enter Tryz.func70, Tryz.ntmps70
    go_wp2_with fail
    go_loopw [5] (fun i wr => ∃ j : Nat, j ≤ l.length ∧ i = .int .i64 j ∧ l.take j = k.take j ∧ Below w.heap.size w wr) (fun i _ => l.length - (intOf i).toNat)
    case atStart => exact ⟨0, by omega, rfl, rfl, Below.refl _ _⟩
    case round =>
      obtain ⟨j, hj, rfl, hjt, hb⟩ := hrel
      have HJ := Lib.hid hjt
      clear hjt
      by_cases hlt : j < l.length
      · have hlt2 : j < k.length := by have := HL.out; omega
        obtain ⟨b, off, rfl, hbb, hcell⟩ := sl_ev (hs.below hb) hlt
        obtain ⟨b', off', rfl, hbb', hcell'⟩ := sl_ev (ht.below hb) hlt2
        obtain ⟨h0, h1, h2, h3⟩ := hcell j hlt
        obtain ⟨g0, g1, g2, g3⟩ := hcell' j hlt2
        clear hcell hcell'
        have i1 : (j : Int) < (k.length : Int) := by omega
        have i0 : (j : Int) < (l.length : Int) := by omega
        have hnx := Lib.hid (show l[j] = k[j] → l.take (j + 1) = k.take (j + 1) by
          intro h
          rw [List.take_succ_eq_append_getElem hlt, List.take_succ_eq_append_getElem hlt2, HJ.out, h])
        have hno := Lib.hid (show ¬ l[j] = k[j] → decide (l = k) = false by
          intro h
          rw [decide_eq_false_iff_not]
          rintro rfl
          exact h rfl)
        generalize l[j] = x at *
        generalize k[j] = y at *
        obtain ⟨xa, xb, xc, xd⟩ := x
        obtain ⟨ya, yb, yc, yd⟩ := y
        simp only at h0 h1 h2 h3 g0 g1 g2 g3
        have HB := Lib.hid hb
        by_cases hn : xa = ya ∧ xb = yb ∧ xc = yc ∧ xd = yd
        · have q : (xa == ya && (xb == yb && (xc == yc && xd == yd))) = true := by simp [hn]
          have HN := Lib.hid (hnx.out (by rw [hn.1, hn.2.1, hn.2.2.1, hn.2.2.2]))
          have hne : ∀ W, (binOp .neq 65 (.agg #[.int .i64 xa, .int .i64 xb, .bool xc, .int .i64 xd]) (.agg #[.int .i64 ya, .int .i64 yb, .bool yc, .int .i64 yd])).run Tryz.prog W = .ok (.bool false) W := fun W => by rw [neE, q]; rfl
          have hng := neGE
          clear hn q hb
          go_wp2_with fail
          go_quiet (fail)
          go_wp2
          go_roundw
          case rel => exact ⟨j + 1, by omega, by go_num, HN.out, below_drewN HB.out _⟩
          case measure => simp [intOf]; omega
        · have q : (xa == ya && (xb == yb && (xc == yc && xd == yd))) = false := by
            cases hq : (xa == ya && (xb == yb && (xc == yc && xd == yd))) with
            | false => rfl
            | true =>
              simp only [Bool.and_eq_true, beq_iff_eq] at hq
              exact absurd hq hn
          have HN := Lib.hid (hno.out (by intro e; injection e with e1 e2 e3 e4; exact hn ⟨e1, e2, e3, e4⟩))
          have hne : ∀ W, (binOp .neq 65 (.agg #[.int .i64 xa, .int .i64 xb, .bool xc, .int .i64 xd]) (.agg #[.int .i64 ya, .int .i64 yb, .bool yc, .int .i64 yd])).run Tryz.prog W = .ok (.bool true) W := fun W => by rw [neE, q]; rfl
          have hng := neGE
          clear hn q hb
          go_wp2_with fail
          go_quiet (fail)
          go_wp2
          go_ret
          exact ⟨by rw [HN.out]; rfl, below_drewN HB.out _⟩
      · have he := Lib.hid (show decide (l = k) = true by
          rw [decide_eq_true_iff]
          have := HJ.out
          rwa [List.take_of_length_le (by omega), List.take_of_length_le (by have := HL.out; omega)] at this)
        go_wp2
        go_ret
        exact ⟨by rw [he.out]; rfl, hb⟩
  · have hlb2 := nbne hl
    have hn := Lib.hid (show decide (l = k) = false by simp; rintro rfl; exact hl rfl)
    clear hl
    go_enter Tryz.func70, Tryz.ntmps70
    go_wp2
    go_ret
    exact ⟨by rw [hn.out]; rfl, Below.refl _ _⟩
end Go.Proofs.YthffhhgaeolpgaaGreat.Evs

/- Package gate: New, Do whole, a gate that nobody made; what Run asks of them. -/
namespace Go.Proofs.YthffhhgaeolpgaaGreat.Ga
open Go.RowKit Go.Proofs.YthffhhgaeolpgaaGreat.Ara Go.Proofs.YthffhhgaeolpgaaGreat.Lok Go.Proofs.YthffhhgaeolpgaaGreat.Fl

theorem fl_base {B gf gl ga ha hs : Nat} {p : PK} {σ : Ar} {sp : List Sp} {W W' : World} (k : FLAt W gf gl ga ha hs p σ sp) (hb : Below B W W') (h0 : gf < B) (h1 : gl < B) (h2 : ga < B) (h3 : ha < B) (h4 : hs < B) : FLAt W' gf gl ga ha hs p σ sp := by
  have key : ∀ {X : Nat}, X < B → W'.heap[X]? = W.heap[X]? := fun h => hb.block _ h
  refine ⟨(key h0).trans k.fb, ?_, k.n1, k.n2, k.n3⟩
  have a := k.at_
  cases p with
  | tas P => obtain ⟨k1, k2, k3, ⟨c, k4⟩, k5⟩ := a; exact ⟨k1.upd (S := []) (Upd.of_below hb) h2 h3 (by simp) (by simp), k2.of_blk (key h4), k3, ⟨c, (key h1).trans k4⟩, k5⟩
  | tic P => obtain ⟨k1, k2, k3, ⟨c, k4⟩, k5⟩ := a; exact ⟨k1.upd (S := []) (Upd.of_below hb) h2 h3 (by simp) (by simp), k2.of_blk (key h4), k3, ⟨c, (key h1).trans k4⟩, k5⟩
  | par P => obtain ⟨k1, k2, k3, ⟨c, k4⟩, k5⟩ := a; exact ⟨k1.upd (S := []) (Upd.of_below hb) h2 h3 (by simp) (by simp), k2.of_blk (key h4), k3, ⟨c, (key h1).trans k4⟩, k5⟩
  | mcs P => obtain ⟨k1, k2, k3, ⟨c, k4⟩, k5⟩ := a; exact ⟨k1.upd (S := []) (Upd.of_below hb) h2 h3 (by simp) (by simp), k2.of_blk (key h4), k3, ⟨c, (key h1).trans k4⟩, k5⟩
  | clh P => obtain ⟨k1, k2, k3, ⟨c, k4⟩, k5⟩ := a; exact ⟨k1.upd (S := []) (Upd.of_below hb) h2 h3 (by simp) (by simp), k2.of_blk (key h4), k3, ⟨c, (key h1).trans k4⟩, k5⟩
theorem words_nil (w : World) : Calls Tryz.prog 21 #[.pointer none] w fun e w' => e = .returned (.slice none 0 0) ∧ Below w.heap.size w w' := by
  go_enter Tryz.func21, Tryz.ntmps21
  go_wp2_with fail
  refine (len_nil _).mono ?_
  rintro e wx ⟨rfl, hwx⟩
  obtain rfl := hwx.symm
  go_wp2_with fail
  go_loop [3, 7] (fun o i => o = .slice none 0 0 ∧ i = .int .i64 0) (fun _ _ => 0)
  case atStart => exact ⟨rfl, rfl⟩
  case round =>
    obtain ⟨rfl, rfl⟩ := hrel
    go_wp2_with fail
    go_ret
    exact ⟨rfl, Below.refl _ _⟩
theorem do_g {gg gf gl ga ha hs : Nat} {p : PK} {σ : Ar} {sp : List Sp} {w : World} (K : GAt w gg gf gl ga ha hs p σ sp) (n m : Nat) (ho : OkK p σ sp n m) (hm : m ≤ 100000) (t want : Int) :
    Calls Tryz.prog 32 #[.pointer (some ⟨gg, 0, none⟩), .agg #[.int .i64 t, .int .i64 want]] w fun e w' => e = .returned (gev (gact p σ sp t want).1.1 (gact p σ sp t want).1.2.1 (gact p σ sp t want).1.2.2) ∧ GAt w' gg gf gl ga ha hs p (gact p σ sp t want).2.1 (gact p σ sp t want).2.2 ∧ Mod [ga, ha, hs] w w' := by
  unfold gact
  by_cases ht : t < 0 ∨ (sp.length : Int) ≤ t
  · rw [if_pos ht]
    exact do_out K t want ht
  rw [if_neg ht]
  by_cases h0 : want = 0
  · rw [if_pos h0]
    by_cases hs0 : gst (spOf sp t) = 1 ∨ gst (spOf sp t) = 3
    · rw [if_pos hs0]
      rcases hr : doK p σ sp 0 t with ⟨b, σ2, sp2⟩
      have h2 : (if b then (if gst (spOf sp t) = 1 then ((2 : Int), t, (1 : Int)) else (4, t, 0)) else (0, t, 0)) = ((if b then (if gst (spOf sp t) = 1 then ((2 : Int), (1 : Int)) else (4, 0)) else (0, 0)).1, t, (if b then (if gst (spOf sp t) = 1 then ((2 : Int), (1 : Int)) else (4, 0)) else (0, 0)).2) := by
        cases b
        · rfl
        · rcases hs0 with h | h
          · simp [h]
          · simp [h]
      simp only [h2]
      exact do_way K n m ho hm t want ht h0 hs0 b σ2 sp2 hr _ _ rfl
    · rw [if_neg hs0]
      refine do_stay K t want ht h0 ?_
      have := gst_in (spOf sp t)
      omega
  rw [if_neg h0]
  by_cases h1 : want = 1
  · rw [if_pos h1]
    subst h1
    rcases hr : doK p σ sp 1 t with ⟨b, σ2, sp2⟩
    have := do_ask K n m ho hm t ht b σ2 sp2 hr
    cases b <;> exact this
  rw [if_neg h1]
  by_cases h2 : want = 2
  · rw [if_pos h2]
    subst h2
    rcases hr : doK p σ sp 2 t with ⟨b, σ2, sp2⟩
    have := do_leave K n m ho hm t ht b σ2 sp2 hr
    cases b <;> exact this
  rw [if_neg h2]
  exact do_bad K t want ht (by omega)
/-- A pick is an act of the lock, or none. -/
theorem gact_do (p : PK) (σ : Ar) (sp : List Sp) (t want : Int) : ∃ kd, (gact p σ sp t want).2 = (doK p σ sp kd t).2 ∧ (kd = 0 ∨ kd = 1 ∨ kd = 2 ∨ kd = 7) := by
  have h7 : (doK p σ sp 7 t).2 = (σ, sp) := by rw [do_else p σ sp 7 t (.inr (by omega))]
  unfold gact
  split
  · exact ⟨7, h7.symm, by omega⟩
  split
  · split
    · exact ⟨0, rfl, by omega⟩
    · exact ⟨7, h7.symm, by omega⟩
  split
  · exact ⟨1, rfl, by omega⟩
  split
  · exact ⟨2, rfl, by omega⟩
  · exact ⟨7, h7.symm, by omega⟩
theorem ok_gact {p : PK} {σ : Ar} {sp : List Sp} {n m : Nat} (h : OkK p σ sp n m) (t want : Int) : OkK p (gact p σ sp t want).2.1 (gact p σ sp t want).2.2 n (m + 1) := by
  obtain ⟨kd, he, _⟩ := gact_do p σ sp t want
  rw [he]
  exact h.act kd t
/-- The real gate, as Run asks it. -/
theorem gi_real (gg gf gl ga ha hs : Nat) (p : PK) (n m0 : Nat) (hm0 : m0 ≤ 50000) (L : Nat) (h0 : gg < L) (h1 : gf < L) (h2 : gl < L) (h3 : ga < L) (h4 : ha < L) (h5 : hs < L) :
    GI (.pointer (some ⟨gg, 0, none⟩)) (Ar × List Sp) (fun k W x => GAt W gg gf gl ga ha hs p x.1 x.2 ∧ OkK p x.1 x.2 n (m0 + k)) (fun x t => gst (spOf x.2 t)) (fun x t w => gact p x.1 x.2 t w) [ga, ha, hs] L := by
  refine ⟨by simp; omega, fun k W W' x h hb => ?_, fun k W x t h => state_g h.1 t, fun k W x t wn hk h => ?_⟩
  · refine ⟨?_, h.2⟩
    have g := h.1
    exact ⟨(hb.block gg h0).trans g.gb, fl_base g.fl hb h1 h2 h3 h4 h5, g.n1, g.n2, g.n3, by have := hb.size; have := g.nh; omega⟩
  · exact (do_g h.1 n (m0 + k) h.2 (by omega) t wn).mono fun e w' ⟨e1, e2, e3⟩ => ⟨e1, ⟨e2, ok_gact h.2 t wn⟩, e3⟩
def GNew (kind : Int) (n : Nat) (par : Int) (w : World) (e : Ending) (w' : World) : Prop :=
  ∃ gg gf gl hs, e = .returned (.tuple #[.pointer (some ⟨gg, 0, none⟩), .int .i64 0]) ∧ GAt w' gg gf gl (w.heap.size + 1) w.heap.size hs (pkK kind par 1) (firstK kind n par 1 { Ar.fresh 4096 with t := sizeK kind n par }).1 (firstK kind n par 1 { Ar.fresh 4096 with t := sizeK kind n par }).2 ∧ (w.heap.size ≤ gg ∧ w.heap.size ≤ gf ∧ w.heap.size ≤ gl ∧ w.heap.size ≤ hs) ∧ Below w.heap.size w w'
set_option maxRecDepth 100000 in
theorem gnew_any (kind : Int) (n : Nat) (par : Int) (hM : mayK kind n par) (w : World) : Calls Tryz.prog 30 #[.int .i64 kind, .int .i64 (n : Int), .int .i64 par] w (GNew kind n par w) := by
  have hr : (Ar.fresh (room 4096)).ws.length = 4096 := by simp [Ar.fresh, zerosW, room]
  have hsz : sizeK kind n par ≤ 100 := by
    obtain ⟨_, h1, h2, h3⟩ := hM
    unfold sizeK
    repeat (first | split | omega)
  have HM := Lib.hid hM
  have HR := Lib.hid hr
  clear hM hr
  go_enter Tryz.func30, Tryz.ntmps30
  go_wp2_with fail
  refine (new_at 4096 _ _ rfl).mono ?_
  rintro e w1 ⟨rfl, hat⟩
  have HN := Lib.hid (new_flat kind n par HM.out (w.heap.size + 1) w.heap.size _ w1 hat.1 (by have := hat.2.1; omega) (by rw [HR.out]; show 0 + _ ≤ _; omega) (by rw [HR.out]; omega) (by show 0 ≤ _; omega))
  have HB1 := Lib.hid hat.2.2
  have hz1 := hat.2.1
  clear hat
  go_wp2_with fail
  refine HN.out.mono ?_
  rintro e w2 ⟨gf, gl, hs, rfl, hk, ⟨b1, b2, b3⟩, hm⟩
  simp only [show (Ar.fresh (room 4096)).t = 0 from rfl, Nat.zero_add] at hk
  have HK := Lib.hid hk
  have HB := Lib.hid (HB1.out.trans (hm.below (by omega) (by simp)))
  have hz2 := hm.size
  clear hk hm HN HB1
  have hbn := below_new w2 (.cells #[.pointer (some ⟨w.heap.size + 1, 0, none⟩), .pointer (some ⟨gf, 0, none⟩)] 73)
  have HG := Lib.hid (blk_new w2 (.cells #[.pointer (some ⟨w.heap.size + 1, 0, none⟩), .pointer (some ⟨gf, 0, none⟩)] 73))
  have HK2 := Lib.hid (HK.out.same hbn)
  have HBB := Lib.hid (HK.out.blocks)
  have HB2 := Lib.hid (HB.out.trans (hbn.mono HB.out.size))
  clear hbn
  go_wp2_with fail
  go_ret2
  obtain ⟨q1, q2, q3, q4⟩ := HBB.out
  exact ⟨w2.heap.size, gf, gl, hs, rfl, ⟨HG.out, HK2.out, by omega, by omega, by omega, by simp; omega⟩, by omega, HB2.out⟩
theorem new_kind9 (q : Option Addr) (w : World) : Calls Tryz.prog 12 #[.pointer q, .int .i64 9, .int .i64 2, .int .i64 0] w fun e w' => e = .returned (.tuple #[.pointer none, .int .i64 7]) ∧ w' = w := by
  go_enter Tryz.func12, Tryz.ntmps12
  go_wp2_with fail
  go_ret2
  exact ⟨rfl, by trivial⟩
theorem gnew_kind9 (w : World) : Calls Tryz.prog 30 #[.int .i64 9, .int .i64 2, .int .i64 0] w fun e w' => e = .returned (.tuple #[.pointer none, .int .i64 7]) ∧ Below w.heap.size w w' := by
  go_enter Tryz.func30, Tryz.ntmps30
  go_wp2_with fail
  refine (new_at 4096 _ _ rfl).mono ?_
  rintro e w1 ⟨rfl, hat⟩
  have HB1 := Lib.hid hat.2.2
  clear hat
  go_wp2_with fail
  refine (new_kind9 _ _).mono ?_
  rintro e wx ⟨rfl, hwx⟩
  obtain rfl := hwx.symm
  go_wp2_with fail
  go_ret2
  exact ⟨rfl, HB1.out⟩
/-- A gate that nobody made: none, or an empty one. -/
def NoG (W : World) (q : Option Addr) : Prop := q = none ∨ ∃ g, q = some ⟨g, 0, none⟩ ∧ W.heap[g]? = some (.cells #[.pointer none, .pointer none] 73 (0, 0))
theorem NoG.same {W W' : World} {q : Option Addr} (h : NoG W q) (hb : Below W.heap.size W W') : NoG W' q := by
  rcases h with h | ⟨g, h1, h2⟩
  · exact .inl h
  · exact .inr ⟨g, h1, (Mod.of_below (S := []) hb).blk h2 (by simp)⟩
section
variable (q : Option Addr) (w : World) (H : NoG w q)
include H
set_option maxRecDepth 100000 in
theorem nthreads : Calls Tryz.prog 38 #[.pointer q] w fun e w' => e = .returned (.int .i64 0) ∧ w' = w := by
  rcases H with rfl | ⟨g, rfl, hc⟩
  · go_enter Tryz.func38, Tryz.ntmps38
    go_wp2_with fail
    go_ret
    exact ⟨rfl, rfl⟩
  · have c0 := blk_cell hc 0 (by simp)
    have c1 := blk_cell hc 1 (by simp)
    simp only [List.getElem_toArray, List.getElem_cons_zero, List.getElem_cons_succ] at c0 c1
    have HS := Lib.hid (slots_none none w (.inl rfl))
    clear hc
    go_enter Tryz.func38, Tryz.ntmps38
    go_wp2_with fail
    refine (HS.out).mono ?_
    rintro e wx ⟨rfl, hwx⟩
    obtain rfl := hwx.symm
    go_wp2_with fail
    go_ret
    exact ⟨rfl, rfl⟩
set_option maxRecDepth 100000 in
theorem nops : Calls Tryz.prog 35 #[.pointer q] w fun e w' => e = .returned (.int .i64 0) ∧ w' = w := by
  rcases H with rfl | ⟨g, rfl, hc⟩
  · go_enter Tryz.func35, Tryz.ntmps35
    go_wp2_with fail
    go_ret
    exact ⟨rfl, rfl⟩
  · have c0 := blk_cell hc 0 (by simp)
    have c1 := blk_cell hc 1 (by simp)
    simp only [List.getElem_toArray, List.getElem_cons_zero, List.getElem_cons_succ] at c0 c1
    have HS := Lib.hid (ops_nil w)
    clear hc
    go_enter Tryz.func35, Tryz.ntmps35
    go_wp2_with fail
    refine (HS.out).mono ?_
    rintro e wx ⟨rfl, hwx⟩
    obtain rfl := hwx.symm
    go_wp2_with fail
    go_ret
    exact ⟨rfl, rfl⟩
set_option maxRecDepth 100000 in
theorem nwords : Calls Tryz.prog 34 #[.pointer q] w fun e w' => e = .returned (.slice none 0 0) ∧ Below w.heap.size w w' := by
  rcases H with rfl | ⟨g, rfl, hc⟩
  · go_enter Tryz.func34, Tryz.ntmps34
    go_wp2_with fail
    go_ret
    exact ⟨rfl, Below.refl _ _⟩
  · have c0 := blk_cell hc 0 (by simp)
    have c1 := blk_cell hc 1 (by simp)
    simp only [List.getElem_toArray, List.getElem_cons_zero, List.getElem_cons_succ] at c0 c1
    have HS := Lib.hid (words_nil w)
    clear hc
    go_enter Tryz.func34, Tryz.ntmps34
    go_wp2_with fail
    refine HS.out.mono ?_
    rintro e w2 ⟨rfl, hb⟩
    go_wp2_with fail
    go_ret
    exact ⟨rfl, hb⟩
set_option maxRecDepth 100000 in
theorem nstate (t : Int) : Calls Tryz.prog 36 #[.pointer q, .int .i64 t] w fun e w' => e = .returned (.int .i64 0) ∧ w' = w := by
  have HT := Lib.hid (nthreads q w H)
  clear H
  by_cases h0 : t < 0
  · go_enter Tryz.func36, Tryz.ntmps36
    go_wp2_with fail
    go_ret
    exact ⟨rfl, rfl⟩
  · have h1 : (0 : Int) ≤ t := by omega
    have h2 : decide (t < 0) = false := decide_eq_false h0
    go_enter Tryz.func36, Tryz.ntmps36
    go_wp2_with fail
    refine (HT.out).mono ?_
    rintro e wx ⟨rfl, hwx⟩
    obtain rfl := hwx.symm
    go_wp2_with fail
    go_ret
    exact ⟨rfl, rfl⟩
set_option maxHeartbeats 4000000 in
set_option maxRecDepth 100000 in
theorem ndo (t want : Int) : Calls Tryz.prog 32 #[.pointer q, .agg #[.int .i64 t, .int .i64 want]] w fun e w' => e = .returned (gev 0 0 0) ∧ Below w.heap.size w w' := by
  have hb1 : Below w.heap.size w (w.alloc (.cells #[.int .i64 t, .int .i64 want] 68)) := below_new _ _
  have hb2 : Below w.heap.size w ((w.alloc (.cells #[.int .i64 t, .int .i64 want] 68)).alloc (.cells #[.int .i64 0, .int .i64 0, .bool false, .int .i64 0] 65)) := hb1.alloc hb1.size _
  have HE := Lib.hid (show ((w.alloc (.cells #[.int .i64 t, .int .i64 want] 68)).alloc (.cells #[.int .i64 0, .int .i64 0, .bool false, .int .i64 0] 65)).heap[w.heap.size + 1]? = some (.cells #[.int .i64 0, .int .i64 0, .bool false, .int .i64 0] 65) from by simpa using blk_new (w.alloc (.cells #[.int .i64 t, .int .i64 want] 68)) (.cells #[.int .i64 0, .int .i64 0, .bool false, .int .i64 0] 65))
  have hH := H.same hb2
  have HT := Lib.hid (fun n => nthreads q _ (hH.same (below_drewN (Below.refl _ _) n)))
  have HB := Lib.hid hb2
  clear H hb1 hb2 hH
  by_cases h0 : t < 0
  · go_enter Tryz.func32, Tryz.ntmps32
    go_wp2_with fail
    go_quiet (fail)
    have HE2 := Lib.hid (show ((((w.alloc (.cells #[.int .i64 t, .int .i64 want] 68)).alloc (.cells #[.int .i64 0, .int .i64 0, .bool false, .int .i64 0] 65))).drewN nq).heap[w.heap.size + 1]? = some (.cells #[.int .i64 0, .int .i64 0, .bool false, .int .i64 0] 65) from HE.out)
    have HB2 := Lib.hid (below_drewN HB.out nq)
    generalize ((w.alloc (.cells #[.int .i64 t, .int .i64 want] 68)).alloc (.cells #[.int .i64 0, .int .i64 0, .bool false, .int .i64 0] 65)).drewN nq = W2 at *
    have d0 := blk_cell HE2.out 0 (by simp)
    have d1 := blk_cell HE2.out 1 (by simp)
    have d2 := blk_cell HE2.out 2 (by simp)
    have d3 := blk_cell HE2.out 3 (by simp)
    simp only [List.getElem_toArray, List.getElem_cons_zero, List.getElem_cons_succ] at d0 d1 d2 d3
    have f0 := blk_free HE2.out 0
    have f1 := blk_free HE2.out 1
    have f2 := blk_free HE2.out 2
    have f3 := blk_free HE2.out 3
    have k0 := blk_set HE2.out 0 (.int .i64 (0))
    have k1 := blk_set k0 1 (.int .i64 (0))
    have k2 := blk_set k1 2 (.bool false)
    have k3 := blk_set k2 3 (.int .i64 (0))
    have g0 := blk_cell k0 0 (by simp)
    have g1 := blk_cell k1 1 (by simp)
    have g2 := blk_cell k2 2 (by simp)
    have g3 := blk_cell k3 3 (by simp)
    simp at g0 g1 g2 g3
    clear k0 k1 k2 k3
    go_wp2_with fail
    refine bodyPost_ret (v := gev (0) (0) (0)) ?_ rfl ⟨rfl, ?_⟩
    · simp [gev, results, Tryz.results32, go_sem, g0, g1, g2, g3]
    · exact ((((HB2.out.setCell (Nat.le_succ _) _).setCell (Nat.le_succ _) _).setCell (Nat.le_succ _) _).setCell (Nat.le_succ _) _)
  · have h1 : (0 : Int) ≤ t := by omega
    have h2 : decide (t < 0) = false := decide_eq_false h0
    go_enter Tryz.func32, Tryz.ntmps32
    go_wp2_with fail
    go_quiet ((go_at_call 38; exact Calls.quiet_of_same (HT.out _)))
    have HE2 := Lib.hid (show ((((w.alloc (.cells #[.int .i64 t, .int .i64 want] 68)).alloc (.cells #[.int .i64 0, .int .i64 0, .bool false, .int .i64 0] 65))).drewN nq).heap[w.heap.size + 1]? = some (.cells #[.int .i64 0, .int .i64 0, .bool false, .int .i64 0] 65) from HE.out)
    have HB2 := Lib.hid (below_drewN HB.out nq)
    generalize ((w.alloc (.cells #[.int .i64 t, .int .i64 want] 68)).alloc (.cells #[.int .i64 0, .int .i64 0, .bool false, .int .i64 0] 65)).drewN nq = W2 at *
    have d0 := blk_cell HE2.out 0 (by simp)
    have d1 := blk_cell HE2.out 1 (by simp)
    have d2 := blk_cell HE2.out 2 (by simp)
    have d3 := blk_cell HE2.out 3 (by simp)
    simp only [List.getElem_toArray, List.getElem_cons_zero, List.getElem_cons_succ] at d0 d1 d2 d3
    have f0 := blk_free HE2.out 0
    have f1 := blk_free HE2.out 1
    have f2 := blk_free HE2.out 2
    have f3 := blk_free HE2.out 3
    have k0 := blk_set HE2.out 0 (.int .i64 (0))
    have k1 := blk_set k0 1 (.int .i64 (0))
    have k2 := blk_set k1 2 (.bool false)
    have k3 := blk_set k2 3 (.int .i64 (0))
    have g0 := blk_cell k0 0 (by simp)
    have g1 := blk_cell k1 1 (by simp)
    have g2 := blk_cell k2 2 (by simp)
    have g3 := blk_cell k3 3 (by simp)
    simp at g0 g1 g2 g3
    clear k0 k1 k2 k3
    go_wp2_with fail
    refine bodyPost_ret (v := gev (0) (0) (0)) ?_ rfl ⟨rfl, ?_⟩
    · simp [gev, results, Tryz.results32, go_sem, g0, g1, g2, g3]
    · exact ((((HB2.out.setCell (Nat.le_succ _) _).setCell (Nat.le_succ _) _).setCell (Nat.le_succ _) _).setCell (Nat.le_succ _) _)
end
theorem gi_none (q : Option Addr) (L : Nat) (hq : ∀ g, q = some ⟨g, 0, none⟩ → g < L) :
    GI (.pointer q) Unit (fun _ W _ => NoG W q ∧ L ≤ W.heap.size) (fun _ _ => 0) (fun _ _ _ => ((0, 0, 0), ())) [] L := by
  refine ⟨by simp, fun k W W' x h hb => ?_, fun k W x t h => ?_, fun k W x t wn hk h => ?_⟩
  · refine ⟨?_, Nat.le_trans h.2 hb.size⟩
    rcases h.1 with h | ⟨g, h1, h2⟩
    · exact .inl h
    · exact .inr ⟨g, h1, (hb.block g (hq g h1)).trans h2⟩
  · exact (nstate q W h.1 t).mono fun e w' ⟨e1, e2⟩ => ⟨e1, by subst e2; exact Below.refl _ _⟩
  · exact (ndo q W h.1 t wn).mono fun e w' ⟨e1, e2⟩ => ⟨e1, ⟨h.1.same e2, Nat.le_trans h.2 e2.size⟩, Mod.of_below e2⟩
end Go.Proofs.YthffhhgaeolpgaaGreat.Ga

/- Layer 21's law: awake. -/
namespace Go.Proofs.YthffhhgaeolpgaaGreat.Ga
open Go.RowKit Go.Proofs.YthffhhgaeolpgaaGreat.Ara Go.Proofs.YthffhhgaeolpgaaGreat.Lok Go.Proofs.YthffhhgaeolpgaaGreat.Fl

def pl21 : List Pl := [⟨0, 1, 1, false⟩]
def l21 : List Int := [0, 0, 0, 0, 0, 0, 0, 9]
def ev21 : List Ev3 := [(1, 0, 0), (0, 0, 0), (2, 0, 1), (0, 0, 0), (3, 0, 0), (4, 0, 0), (0, 0, 0), (0, 0, 0)]
def x21 (rest : List Int) : Ar × List Sp := (gact (.tic ⟨1⟩) ⟨0 :: 0 :: rest, 2, 0, 0, 0, false⟩ [sp0, sp0] 1 2).2
def r21 (rest : List Int) : RunS (Ar × List Sp) := runL (fun x t => gst (spOf x.2 t)) (fun x t w => gact (.tic ⟨1⟩) x.1 x.2 t w) pl21 (x21 rest) l21
theorem r21_first (rest : List Int) : (gact (.tic ⟨1⟩) ⟨0 :: 0 :: rest, 2, 0, 0, 0, false⟩ [sp0, sp0] 1 2).1 = (5, 1, 0) := by kernel_rfl
set_option maxRecDepth 100000 in
theorem r21_out (rest : List Int) : (r21 rest).out = ev21 := by kernel_rfl
set_option maxRecDepth 100000 in
theorem r21_x (rest : List Int) : (r21 rest).x.1.t = 2 ∧ (r21 rest).x.1.ws.take 2 = [1, 1] ∧ (r21 rest).x.1.ops = 3 ∧ (r21 rest).x.2.length = 2 ∧ gst (spOf (r21 rest).x.2 0) = 0 := ⟨by kernel_rfl, by kernel_rfl, by kernel_rfl, by kernel_rfl, by kernel_rfl⟩
set_option maxRecDepth 100000 in
theorem fresh2 : ∃ rest, ({ Ar.fresh 4096 with t := sizeK 2 2 0 } : Ar) = ⟨0 :: 0 :: rest, 2, 0, 0, 0, false⟩ := ⟨List.replicate 4094 0, by kernel_rfl⟩
theorem isI_small {t : Int} (h : 0 ≤ t ∧ t ≤ 100) : isI t := WalkArith.wf_i64 (by omega)
theorem sl_of {w W : World} {g B : Nat} {xs : List Value} {T : TypeId} {S : List Nat} (hb : w.heap[g]? = some (.cells xs.toArray T (0, 0))) (hm : Mod S w W) (hg : g ∉ S) (hB : g < B) : Sl W B (some ⟨g, 0, none⟩) xs := .inr ⟨g, 0, rfl, hB, fun j hj => by
  have := blk_cell ((hm.blk hb hg)) j (by simpa using hj)
  simpa using this⟩
def toEv (e : Ev3) : Evs.Ev := ⟨e.1, e.2.1, false, e.2.2⟩
theorem flat_ev (l : List Ev3) : l.flatMap decEv = (l.map toEv).flatMap Evs.dE := by
  rw [List.flatMap_map]
  rfl
set_option maxHeartbeats 8000000 in
set_option maxRecDepth 100000 in
theorem awake21 (w : World) : Calls Tryz.prog 29 #[] w fun e w' => e = .returned (.bool true) ∧ Below w.heap.size w w' := by
  obtain ⟨rest, hrest⟩ := fresh2
  have HN : Calls Tryz.prog 30 #[.int .i64 2, .int .i64 2, .int .i64 0] w (GNew 2 2 0 w) := gnew_any 2 2 0 ⟨by omega, by omega, fun h => by omega, fun h => by omega⟩ w
  replace HN := Lib.hid HN
  have HREST := Lib.hid hrest
  clear hrest
  go_enter Tryz.func29, Tryz.ntmps29
  go_wp2_with fail
  refine HN.out.mono ?_
  rintro e w1 ⟨gg, gf, gl, hs, rfl, hk, ⟨b1, b2, b3, b4⟩, hb⟩
  rw [HREST.out] at hk
  have hK : GAt w1 gg gf gl (w.heap.size + 1) w.heap.size hs (.tic ⟨1⟩) ⟨0 :: 0 :: rest, 2, 0, 0, 0, false⟩ [sp0, sp0] := hk
  have HK := Lib.hid hK
  have HB := Lib.hid hb
  clear hk hK hb HN
  have HO : OkK (.tic ⟨1⟩) ⟨0 :: 0 :: rest, 2, 0, 0, 0, false⟩ [sp0, sp0] 2 0 := by
    have h := ok_flat 2 2 0 ⟨by omega, by omega, fun h => by omega, fun h => by omega⟩ (Ar.fresh 4096) (fun k _ => zeros_getD _ _) (by simp [Ar.fresh, zerosW, sizeK]) (by simp [Ar.fresh, zerosW]) 0 (Nat.le_refl _)
    have e : ({ Ar.fresh 4096 with t := (Ar.fresh 4096).t + sizeK 2 2 0 } : Ar) = _ := HREST.out
    rw [e] at h
    exact h
  replace HO := Lib.hid HO
  go_wp2_with fail
  refine (gnew_kind9 _).mono ?_
  rintro e w2 ⟨rfl, hb2⟩
  have HK2 := Lib.hid (HK.out.same hb2)
  have HB2 := Lib.hid (HB.out.trans (hb2.mono HB.out.size))
  clear hb2 HK HB
  go_wp2_with fail
  refine (do_g HK2.out 2 0 HO.out (by omega) 1 2).mono ?_
  rw [r21_first]
  rintro e w3 ⟨rfl, hk3, hm3⟩
  have HO3 := Lib.hid (ok_gact HO.out 1 2)
  have HK3 : Hid (GAt w3 gg gf gl (w.heap.size + 1) w.heap.size hs (.tic ⟨1⟩) (x21 rest).1 (x21 rest).2) := Lib.hid hk3
  have HB3 := Lib.hid (HB2.out.trans (hm3.below HB2.out.size (by simp; omega)))
  clear hk3 hm3 HK2 HB2 HO
  simp only [gev]
  go_wp2_with fail
  have hbb := HK3.out.blocks
  have hK3 := HK3.out
  have hO3 := HO3.out
  have hB3 := HB3.out
  have hz : (((w3.alloc (.cells #[.int .i64 5, .int .i64 1, .bool false, .int .i64 0] 65)).alloc (.cells #[.int .i64 0, .int .i64 1, .int .i64 1, .bool false] 149)).alloc (.cells #[.int .i64 0, .int .i64 0, .int .i64 0, .int .i64 0, .int .i64 0, .int .i64 0, .int .i64 0, .int .i64 9] 3)).heap.size = w3.heap.size + 3 := by simp
  have hw3 : Below w3.heap.size w3 (((w3.alloc (.cells #[.int .i64 5, .int .i64 1, .bool false, .int .i64 0] 65)).alloc (.cells #[.int .i64 0, .int .i64 1, .int .i64 1, .bool false] 149)).alloc (.cells #[.int .i64 0, .int .i64 0, .int .i64 0, .int .i64 0, .int .i64 0, .int .i64 0, .int .i64 0, .int .i64 9] 3)) := (((below_new _ _).alloc (by simp) _).alloc (by simp; omega) _)
  have k5 : (((w3.alloc (.cells #[.int .i64 5, .int .i64 1, .bool false, .int .i64 0] 65)).alloc (.cells #[.int .i64 0, .int .i64 1, .int .i64 1, .bool false] 149)).alloc (.cells #[.int .i64 0, .int .i64 0, .int .i64 0, .int .i64 0, .int .i64 0, .int .i64 0, .int .i64 0, .int .i64 9] 3)).heap[w3.heap.size]? = some (.cells #[.int .i64 5, .int .i64 1, .bool false, .int .i64 0] 65) := blk_alloc (blk_alloc (blk_new w3 _) _) _
  have kp : (((w3.alloc (.cells #[.int .i64 5, .int .i64 1, .bool false, .int .i64 0] 65)).alloc (.cells #[.int .i64 0, .int .i64 1, .int .i64 1, .bool false] 149)).alloc (.cells #[.int .i64 0, .int .i64 0, .int .i64 0, .int .i64 0, .int .i64 0, .int .i64 0, .int .i64 0, .int .i64 9] 3)).heap[w3.heap.size + 1]? = some (.cells #[.int .i64 0, .int .i64 1, .int .i64 1, .bool false] 149) := blk_alloc (show ((w3.alloc (.cells #[.int .i64 5, .int .i64 1, .bool false, .int .i64 0] 65)).alloc (.cells #[.int .i64 0, .int .i64 1, .int .i64 1, .bool false] 149)).heap[w3.heap.size + 1]? = _ by simpa using blk_new (w3.alloc (.cells #[.int .i64 5, .int .i64 1, .bool false, .int .i64 0] 65)) (.cells #[.int .i64 0, .int .i64 1, .int .i64 1, .bool false] 149)) _
  have kq : (((w3.alloc (.cells #[.int .i64 5, .int .i64 1, .bool false, .int .i64 0] 65)).alloc (.cells #[.int .i64 0, .int .i64 1, .int .i64 1, .bool false] 149)).alloc (.cells #[.int .i64 0, .int .i64 0, .int .i64 0, .int .i64 0, .int .i64 0, .int .i64 0, .int .i64 0, .int .i64 9] 3)).heap[w3.heap.size + 1 + 1]? = some (.cells #[.int .i64 0, .int .i64 0, .int .i64 0, .int .i64 0, .int .i64 0, .int .i64 0, .int .i64 0, .int .i64 9] 3) := by simpa using blk_new ((w3.alloc (.cells #[.int .i64 5, .int .i64 1, .bool false, .int .i64 0] 65)).alloc (.cells #[.int .i64 0, .int .i64 1, .int .i64 1, .bool false] 149)) (.cells #[.int .i64 0, .int .i64 0, .int .i64 0, .int .i64 0, .int .i64 0, .int .i64 0, .int .i64 0, .int .i64 9] 3)
  have HR := Lib.hid (run_any (.pointer (some ⟨gg, 0, none⟩)) _ _ _ [w.heap.size + 1, w.heap.size, hs] _ (gi_real gg gf gl (w.heap.size + 1) w.heap.size hs (.tic ⟨1⟩) 2 1 (by omega) (((w3.alloc (.cells #[.int .i64 5, .int .i64 1, .bool false, .int .i64 0] 65)).alloc (.cells #[.int .i64 0, .int .i64 1, .int .i64 1, .bool false] 149)).alloc (.cells #[.int .i64 0, .int .i64 0, .int .i64 0, .int .i64 0, .int .i64 0, .int .i64 0, .int .i64 0, .int .i64 9] 3)).heap.size (by omega) (by omega) (by omega) (by omega) (by omega) (by omega)) pl21 (some ⟨w3.heap.size + 1, 0, none⟩) 1 (by decide) (fun W hW => sl_of (xs := pl21.flatMap decPl) kp hW (by simp; omega) (by omega)) l21 (some ⟨w3.heap.size + 1 + 1, 0, none⟩) 8 (by decide) (fun t ht => isI_small (by simp [l21] at ht; omega)) (fun W hW => sl_of (xs := l21.flatMap decI) kq hW (by simp; omega) (by omega)) (x21 rest) ⟨hK3.same hw3, hO3⟩)
  have HB4 := Lib.hid (hB3.trans (hw3.mono hB3.size))
  have HE5 := Lib.hid k5
  have hzz := hB3.size
  have hlt : w.heap.size + 1 < w3.heap.size ∧ w.heap.size < w3.heap.size ∧ hs < w3.heap.size := by omega
  clear hbb hK3 hO3 hB3 hw3 kp kq k5 HK3 HO3 HB3
  generalize (((w3.alloc (.cells #[.int .i64 5, .int .i64 1, .bool false, .int .i64 0] 65)).alloc (.cells #[.int .i64 0, .int .i64 1, .int .i64 1, .bool false] 149)).alloc (.cells #[.int .i64 0, .int .i64 0, .int .i64 0, .int .i64 0, .int .i64 0, .int .i64 0, .int .i64 0, .int .i64 9] 3)) = W3 at *
  generalize w3.heap.size = n3 at *
  refine HR.out.mono ?_
  rintro e w4 ⟨B, cb, rfl, hown, ⟨hk4, _⟩, hm4⟩
  have hown2 : w4.ownsRow (W3.heap.size + 1) 65 4 (.slice B 8 cb) 8 (ev21.flatMap decEv) := by rw [← r21_out rest]; exact hown
  have hk5 : GAt w4 gg gf gl (w.heap.size + 1) w.heap.size hs (.tic ⟨1⟩) (r21 rest).x.1 (r21 rest).x.2 := hk4
  obtain ⟨x1, x2, x3, x4, x5⟩ := r21_x rest
  generalize (r21 rest).x = X8 at *
  obtain ⟨σ8, sp8⟩ := X8
  simp only at x1 x2 x3 x4 x5 hk5
  have HK4 := Lib.hid hk5
  have HB5 := Lib.hid (HB4.out.trans (hm4.below HB4.out.size (by simp; omega)))
  have HE6 := Lib.hid (show w4.heap[n3]? = _ from hm4.blk HE5.out (by simp; omega))
  obtain ⟨B2, c2, hBc, _, _, hsl⟩ := own_slice hown2
  cases hBc
  rw [flat_ev] at hsl
  have HSL := Lib.hid (show Sl w4 w4.heap.size B ((ev21.map toEv).flatMap Evs.dE) from hsl)
  have hev : ∀ W, (binOp .eql 65 (.agg #[.int .i64 5, .int .i64 1, .bool false, .int .i64 0]) (.agg #[.int .i64 5, .int .i64 1, .bool false, .int .i64 0])).run Tryz.prog W = .ok (.bool true) W := fun W => by rw [Evs.eqE]; rfl
  have heg := fun x y xs ys W => Evs.eqGE x y xs ys W
  have q0 := blk_cell HE6.out 0 (by simp)
  have q1 := blk_cell HE6.out 1 (by simp)
  have q2 := blk_cell HE6.out 2 (by simp)
  have q3 := blk_cell HE6.out 3 (by simp)
  simp only [List.getElem_toArray, List.getElem_cons_zero, List.getElem_cons_succ] at q0 q1 q2 q3
  have hn3 : n3 < w4.heap.size := lt_of_blk HE6.out
  clear hown hown2 hk4 hk5 hm4 HE5 HB4 HR hsl HREST
  simp only [show l21.length = 8 from rfl]
  go_wp2_with fail
  have hsame := Evs.esame_any (ev21.map toEv) (ev21.map toEv) B (some ⟨w4.heap.size, 0, none⟩) cb 8 (w4.alloc (.cells ((ev21.map toEv).flatMap Evs.dE).toArray 65)) (by decide) (by decide) (HSL.out.push _) (Sl.made w4 ((ev21.map toEv).flatMap Evs.dE).toArray 65)
  rw [decide_eq_true rfl] at hsame
  refine hsame.mono ?_
  rintro e w5 ⟨rfl, hb5⟩
  have hbn5 := (below_new w4 (.cells ((ev21.map toEv).flatMap Evs.dE).toArray 65)).trans (hb5.mono (by simp))
  have HK5 := Lib.hid (HK4.out.same hbn5)
  have HB6 := Lib.hid (HB5.out.trans (hbn5.mono HB5.out.size))
  clear hsame hb5 hbn5 HK4 HB5 HE6 HSL q0 q1 q2 q3 hev heg
  go_wp2_with fail
  refine (words_g HK5.out).mono ?_
  rw [x1, x2]
  rintro e w6 ⟨A, c, rfl, hsl6, hb6⟩
  have HSL6 := Lib.hid hsl6
  have HK6 := Lib.hid (HK5.out.same hb6)
  have HB7 := Lib.hid (HB6.out.trans (hb6.mono HB6.out.size))
  clear hsl6 hb6 HK5 HB6
  go_wp2_with fail
  have hsame := same_any [1, 1] [1, 1] A (some ⟨w6.heap.size, 0, none⟩) c 2 (w6.alloc (.cells (([1, 1] : List Int).flatMap decI).toArray 3)) (by decide) (by decide) (HSL6.out.push _) (Sl.made w6 (([1, 1] : List Int).flatMap decI).toArray 3)
  rw [decide_eq_true rfl] at hsame
  refine hsame.mono ?_
  rintro e w7 ⟨rfl, hb7⟩
  have hbn7 := (below_new w6 (.cells (([1, 1] : List Int).flatMap decI).toArray 3)).trans (hb7.mono (by simp))
  have HK7 := Lib.hid (HK6.out.same hbn7)
  have HB8 := Lib.hid (HB7.out.trans (hbn7.mono HB7.out.size))
  clear hsame hb7 hbn7 HK6 HB7 HSL6
  go_wp2_with fail
  have ho7 := ops_g HK7.out
  rw [x3] at ho7
  refine (ho7).mono ?_
  rintro e wx ⟨rfl, hwx⟩
  obtain rfl := hwx.symm
  go_wp2_with fail
  have ht7 := threads_g HK7.out
  rw [x4] at ht7
  refine (ht7).mono ?_
  rintro e wx ⟨rfl, hwx⟩
  obtain rfl := hwx.symm
  go_wp2_with fail
  have hs7 := state_g HK7.out 0
  rw [x5] at hs7
  refine hs7.mono ?_
  rintro e w8 ⟨rfl, hb8⟩
  have HB9 := Lib.hid (HB8.out.trans (hb8.mono HB8.out.size))
  clear hb8 HB8
  go_wp2_with fail
  go_ret
  exact ⟨rfl, HB9.out⟩
end Go.Proofs.YthffhhgaeolpgaaGreat.Ga

/- Layer 21's law: GateNone. -/
namespace Go.Proofs.YthffhhgaeolpgaaGreat.Ga
open Go.RowKit Go.Proofs.YthffhhgaeolpgaaGreat.Ara Go.Proofs.YthffhhgaeolpgaaGreat.Lok Go.Proofs.YthffhhgaeolpgaaGreat.Fl

theorem frame61 {a : Act} (h : a.tmps.size = 61) (hd : a.defers = []) : ∃ u : Nat → Value, a = { tmps := #[u 0, u 1, u 2, u 3, u 4, u 5, u 6, u 7, u 8, u 9, u 10, u 11, u 12, u 13, u 14, u 15, u 16, u 17, u 18, u 19, u 20, u 21, u 22, u 23, u 24, u 25, u 26, u 27, u 28, u 29, u 30, u 31, u 32, u 33, u 34, u 35, u 36, u 37, u 38, u 39, u 40, u 41, u 42, u 43, u 44, u 45, u 46, u 47, u 48, u 49, u 50, u 51, u 52, u 53, u 54, u 55, u 56, u 57, u 58, u 59, u 60], defers := [] } ∧ ∀ n, a.tmps.getD n undef = u n := by
  refine ⟨fun n => a.tmps.getD n undef, ?_, fun _ => rfl⟩
  have h1 := arr_lit a.tmps h
  cases a with
  | mk t d =>
    simp only at hd h1
    subst hd
    congr 1
theorem gx0 (a b : Option Addr) (W : World) : (Instr.index 74 (.agg #[.pointer a, .pointer b]) (.int .i64 0)).run Tryz.prog W = .ok (.pointer a) W := by
  simp [Instr.index, run_underlying Tryz.underlying74, asIntOf, go_sem]
theorem gx1 (a b : Option Addr) (W : World) : (Instr.index 74 (.agg #[.pointer a, .pointer b]) (.int .i64 1)).run Tryz.prog W = .ok (.pointer b) W := by
  simp [Instr.index, run_underlying Tryz.underlying74, asIntOf, go_sem]
def GnJ (t wn : Int) (w : World) (a : Act) (W : World) : Prop :=
  a.tmps.size = 61 ∧ a.defers = [] ∧ a.tmps.getD 1 undef = .pointer (some ⟨w.heap.size, 0, none⟩) ∧ a.tmps.getD 10 undef = .agg #[.pointer none, .pointer (some ⟨w.heap.size + 1, 0, none⟩)] ∧
    ∃ k : Nat, a.tmps.getD 11 undef = .int .i64 k ∧ k ≤ 2 ∧ W.cell? ⟨w.heap.size, 0, none⟩ = some (.int .i64 t) ∧ W.cell? ⟨w.heap.size, 1, none⟩ = some (.int .i64 wn) ∧ NoG W (some ⟨w.heap.size + 1, 0, none⟩) ∧ Below w.heap.size w W ∧ w.heap.size + 2 ≤ W.heap.size
set_option maxHeartbeats 8000000 in
set_option maxRecDepth 100000 in
theorem gnone_walk (t wn : Int) (ht : isI t) (w : World) : Calls Tryz.prog 5 #[.agg #[.int .i64 t, .int .i64 wn]] w fun e w' => e = .returned (.bool true) ∧ Below w.heap.size w w' := by
  have q1 : ∀ W, (binOp .neq 65 (.agg #[.int .i64 0, .int .i64 0, .bool false, .int .i64 0]) (.agg #[.int .i64 0, .int .i64 0, .bool false, .int .i64 0])).run Tryz.prog W = .ok (.bool false) W := fun W => by rw [Evs.neE]; rfl
  have q2 := fun x y xs ys W => Evs.neGE x y xs ys W
  have q3 := fun a b W => gx0 a b W
  have q4 := fun a b W => gx1 a b W
  have h0 := below_new w (.cells #[.int .i64 t, .int .i64 wn] 68)
  have hz1 : (w.alloc (.cells #[.int .i64 t, .int .i64 wn] 68)).heap.size = w.heap.size + 1 := by simp
  have h1 := below_new (w.alloc (.cells #[.int .i64 t, .int .i64 wn] 68)) (.cells #[.pointer none, .pointer none] 73)
  have b0 := blk_alloc (blk_new w (.cells #[.int .i64 t, .int .i64 wn] 68)) (.cells #[.pointer none, .pointer none] 73)
  have b1 := blk_new (w.alloc (.cells #[.int .i64 t, .int .i64 wn] 68)) (.cells #[.pointer none, .pointer none] 73)
  rw [hz1] at b1
  have c0 := blk_cell b0 0 (by simp)
  have c1 := blk_cell b0 1 (by simp)
  simp only [List.getElem_toArray, List.getElem_cons_zero, List.getElem_cons_succ] at c0 c1
  have HN := Lib.hid (show NoG _ (some ⟨w.heap.size + 1, 0, none⟩) from .inr ⟨_, rfl, b1⟩)
  have HB := Lib.hid (h0.trans (h1.mono (by omega)))
  have HZ := Lib.hid (show w.heap.size + 2 ≤ ((w.alloc (.cells #[.int .i64 t, .int .i64 wn] 68)).alloc (.cells #[.pointer none, .pointer none] 73)).heap.size by simp)
  clear h0 h1 b0 b1 hz1
  go_enter Tryz.func5, Tryz.ntmps5
  go_wp2_with fail
  refine wp_loop (GnJ t wn w) (fun a' _ => 2 - (intOf (a'.tmps.getD 11 undef)).toNat) ?_ ?_
  · exact ⟨rfl, rfl, rfl, rfl, 0, rfl, by omega, c0, c1, HN.out, HB.out, HZ.out⟩
  · clear HN HB c0 c1 HZ
    rintro a' W ⟨hsz, hdf, s1, s10, k, s11, hk, c0, c1, hn, hb, hz⟩
    obtain ⟨u, rfl, hu⟩ := frame61 hsz hdf
    rw [hu] at s1 s10 s11
    simp only [s1, s10, s11]
    clear hsz hdf s1 s10 s11 hu
    have HN := Lib.hid hn
    have HB := Lib.hid hb
    have HZ := Lib.hid hz
    clear hn hb hz
    by_cases hlt : k < 2
    · rcases (show k = 0 ∨ k = 1 by omega) with rfl | rfl
      · have HNq : Hid (NoG W none) := Lib.hid (.inl rfl)
        go_wp2_with fail
        have hbn := below_new W (.cells #[.int .i64 t] 3)
        have hpk := blk_new W (.cells #[.int .i64 t] 3)
        have c0 := keep1 hbn c0
        have c1 := keep1 hbn c1
        have HNq := Lib.hid (HNq.out.same hbn)
        have HN := Lib.hid (HN.out.same hbn)
        have HB := Lib.hid (HB.out.trans ((hbn).mono HB.out.size))
        have HZ := Lib.hid (Nat.le_trans HZ.out (hbn).size)
        have hR := run_any (.pointer none) _ _ _ [] (W.alloc (.cells #[.int .i64 t] 3)) (gi_none none (W.alloc (.cells #[.int .i64 t] 3)).heap.size (fun g h => by have := HZ.out; cases h <;> omega)) [] none 0 (by simp) (fun W hW => Sl.nil _ _ _) [t] (some ⟨W.heap.size, 0, none⟩) 1 (by simp) (fun u hu => by have e : u = t := (by simpa using hu); rw [e]; exact ht) (fun W hW => sl_of (xs := [t].flatMap decI) hpk hW (by simp) (by simp)) () ⟨HNq.out, Nat.le_refl _⟩
        refine hR.mono ?_
        rintro e w3 ⟨B, cb, rfl, hown, _, hm3⟩
        have hb3 : Below (W.alloc (.cells #[.int .i64 t] 3)).heap.size (W.alloc (.cells #[.int .i64 t] 3)) w3 := ⟨hm3.os, hm3.tape, hm3.output, hm3.size, fun k hk => hm3.block k hk (by simp)⟩
        obtain ⟨B2, cb2, hBc, _, _, hsl⟩ := own_slice hown
        cases hBc
        have HSL := Lib.hid (show Sl w3 w3.heap.size B (([(0, 0, 0)] : List Ev3).flatMap decEv) from hsl)
        have c0 := keep1 hb3 c0
        have c1 := keep1 hb3 c1
        have HNq := Lib.hid (HNq.out.same hb3)
        have HN := Lib.hid (HN.out.same hb3)
        have HB := Lib.hid (HB.out.trans ((hb3).mono HB.out.size))
        have HZ := Lib.hid (Nat.le_trans HZ.out (hb3).size)
        clear hbn hpk hR hown hsl hb3 hm3
        go_wp2_with fail
        refine (ndo none _ HNq.out t wn).mono ?_
        rintro e w4 ⟨rfl, hb4⟩
        have HSL := Lib.hid (HSL.out.step hb4)
        have c0 := keep1 hb4 c0
        have c1 := keep1 hb4 c1
        have HNq := Lib.hid (HNq.out.same hb4)
        have HN := Lib.hid (HN.out.same hb4)
        have HB := Lib.hid (HB.out.trans ((hb4).mono HB.out.size))
        have HZ := Lib.hid (Nat.le_trans HZ.out (hb4).size)
        clear hb4
        simp only [gev]
        go_wp2_with fail
        refine (nthreads none _ HNq.out).mono ?_
        rintro e wx ⟨rfl, hwx⟩
        obtain rfl := hwx.symm
        go_wp2_with fail
        refine (nwords none _ HNq.out).mono ?_
        rintro e w5 ⟨rfl, hb5⟩
        have HSL := Lib.hid (HSL.out.step hb5)
        have c0 := keep1 hb5 c0
        have c1 := keep1 hb5 c1
        have HNq := Lib.hid (HNq.out.same hb5)
        have HN := Lib.hid (HN.out.same hb5)
        have HB := Lib.hid (HB.out.trans ((hb5).mono HB.out.size))
        have HZ := Lib.hid (Nat.le_trans HZ.out (hb5).size)
        clear hb5
        obtain ⟨b, off, rfl, hbb, hcell⟩ := HSL.out.at_ (by decide)
        have e0 : w5.cell? ⟨b, off + 0, none⟩ = some (Value.int .i64 0) := hcell 0 (by decide)
        have e1 : w5.cell? ⟨b, off + 1, none⟩ = some (Value.int .i64 0) := hcell 1 (by decide)
        have e2 : w5.cell? ⟨b, off + 2, none⟩ = some (Value.bool false) := hcell 2 (by decide)
        have e3 : w5.cell? ⟨b, off + 3, none⟩ = some (Value.int .i64 0) := hcell 3 (by decide)
        rw [Nat.add_zero] at e0
        clear hcell
        go_wp2_with fail
        refine (nops none _ HNq.out).mono ?_
        rintro e wx ⟨rfl, hwx⟩
        obtain rfl := hwx.symm
        go_wp2_with fail
        refine (nstate none _ HNq.out t).mono ?_
        rintro e wx ⟨rfl, hwx⟩
        obtain rfl := hwx.symm
        go_wp2_with fail
        exact ⟨⟨rfl, rfl, rfl, rfl, 1, rfl, by omega, c0, c1, HN.out, HB.out, HZ.out⟩, by simp [intOf]⟩
      · have HNq := HN
        go_wp2_with fail
        have hbn := below_new W (.cells #[.int .i64 t] 3)
        have hpk := blk_new W (.cells #[.int .i64 t] 3)
        have c0 := keep1 hbn c0
        have c1 := keep1 hbn c1
        have HNq := Lib.hid (HNq.out.same hbn)
        have HN := Lib.hid (HN.out.same hbn)
        have HB := Lib.hid (HB.out.trans ((hbn).mono HB.out.size))
        have HZ := Lib.hid (Nat.le_trans HZ.out (hbn).size)
        have hR := run_any (.pointer (some ⟨w.heap.size + 1, 0, none⟩)) _ _ _ [] (W.alloc (.cells #[.int .i64 t] 3)) (gi_none (some ⟨w.heap.size + 1, 0, none⟩) (W.alloc (.cells #[.int .i64 t] 3)).heap.size (fun g h => by have := HZ.out; cases h <;> omega)) [] none 0 (by simp) (fun W hW => Sl.nil _ _ _) [t] (some ⟨W.heap.size, 0, none⟩) 1 (by simp) (fun u hu => by have e : u = t := (by simpa using hu); rw [e]; exact ht) (fun W hW => sl_of (xs := [t].flatMap decI) hpk hW (by simp) (by simp)) () ⟨HNq.out, Nat.le_refl _⟩
        refine hR.mono ?_
        rintro e w3 ⟨B, cb, rfl, hown, _, hm3⟩
        have hb3 : Below (W.alloc (.cells #[.int .i64 t] 3)).heap.size (W.alloc (.cells #[.int .i64 t] 3)) w3 := ⟨hm3.os, hm3.tape, hm3.output, hm3.size, fun k hk => hm3.block k hk (by simp)⟩
        obtain ⟨B2, cb2, hBc, _, _, hsl⟩ := own_slice hown
        cases hBc
        have HSL := Lib.hid (show Sl w3 w3.heap.size B (([(0, 0, 0)] : List Ev3).flatMap decEv) from hsl)
        have c0 := keep1 hb3 c0
        have c1 := keep1 hb3 c1
        have HNq := Lib.hid (HNq.out.same hb3)
        have HN := Lib.hid (HN.out.same hb3)
        have HB := Lib.hid (HB.out.trans ((hb3).mono HB.out.size))
        have HZ := Lib.hid (Nat.le_trans HZ.out (hb3).size)
        clear hbn hpk hR hown hsl hb3 hm3
        go_wp2_with fail
        refine (ndo (some ⟨w.heap.size + 1, 0, none⟩) _ HNq.out t wn).mono ?_
        rintro e w4 ⟨rfl, hb4⟩
        have HSL := Lib.hid (HSL.out.step hb4)
        have c0 := keep1 hb4 c0
        have c1 := keep1 hb4 c1
        have HNq := Lib.hid (HNq.out.same hb4)
        have HN := Lib.hid (HN.out.same hb4)
        have HB := Lib.hid (HB.out.trans ((hb4).mono HB.out.size))
        have HZ := Lib.hid (Nat.le_trans HZ.out (hb4).size)
        clear hb4
        simp only [gev]
        go_wp2_with fail
        refine (nthreads (some ⟨w.heap.size + 1, 0, none⟩) _ HNq.out).mono ?_
        rintro e wx ⟨rfl, hwx⟩
        obtain rfl := hwx.symm
        go_wp2_with fail
        refine (nwords (some ⟨w.heap.size + 1, 0, none⟩) _ HNq.out).mono ?_
        rintro e w5 ⟨rfl, hb5⟩
        have HSL := Lib.hid (HSL.out.step hb5)
        have c0 := keep1 hb5 c0
        have c1 := keep1 hb5 c1
        have HNq := Lib.hid (HNq.out.same hb5)
        have HN := Lib.hid (HN.out.same hb5)
        have HB := Lib.hid (HB.out.trans ((hb5).mono HB.out.size))
        have HZ := Lib.hid (Nat.le_trans HZ.out (hb5).size)
        clear hb5
        obtain ⟨b, off, rfl, hbb, hcell⟩ := HSL.out.at_ (by decide)
        have e0 : w5.cell? ⟨b, off + 0, none⟩ = some (Value.int .i64 0) := hcell 0 (by decide)
        have e1 : w5.cell? ⟨b, off + 1, none⟩ = some (Value.int .i64 0) := hcell 1 (by decide)
        have e2 : w5.cell? ⟨b, off + 2, none⟩ = some (Value.bool false) := hcell 2 (by decide)
        have e3 : w5.cell? ⟨b, off + 3, none⟩ = some (Value.int .i64 0) := hcell 3 (by decide)
        rw [Nat.add_zero] at e0
        clear hcell
        go_wp2_with fail
        refine (nops (some ⟨w.heap.size + 1, 0, none⟩) _ HNq.out).mono ?_
        rintro e wx ⟨rfl, hwx⟩
        obtain rfl := hwx.symm
        go_wp2_with fail
        refine (nstate (some ⟨w.heap.size + 1, 0, none⟩) _ HNq.out t).mono ?_
        rintro e wx ⟨rfl, hwx⟩
        obtain rfl := hwx.symm
        go_wp2_with fail
        exact ⟨⟨rfl, rfl, rfl, rfl, 2, rfl, by omega, c0, c1, HN.out, HB.out, HZ.out⟩, by simp [intOf]⟩
    · obtain rfl : k = 2 := by omega
      clear c0 c1
      go_wp2_with fail
      refine (awake21 _).mono ?_
      rintro e w9 ⟨rfl, hb9⟩
      go_wp2_with fail
      go_ret
      exact ⟨rfl, HB.out.trans (hb9.mono HB.out.size)⟩
structure Pick where
  th : Int
  want : Int
def decPk (p : Pick) : List Value := [.int .i64 p.th, .int .i64 p.want]
theorem reads_pk {H : Type} {enc : TypeId × Value → H} : Reads enc Tryz.prog 68 decPk (fun e => isI64 e.th ∧ isI64 e.want) :=
  (reads_s2 (d0 := Value.int .i64) (d1 := Value.int .i64) Tryz.underlying68 (by kernel_rfl) (by kernel_rfl) (reads_i64 Tryz.underlying3) (reads_i64 Tryz.underlying3)).map
    (fun p => ⟨p.1, p.2⟩) (fun _ => rfl) (fun _ h => h)
theorem none_law (w : World) (x : Pick) (h : isI64 x.th ∧ isI64 x.want) : Calls Tryz.prog 5 #[.agg (decPk x).toArray] w fun e w' => e = .returned (.bool true) ∧ Below w.heap.size w w' := gnone_walk x.th x.want (WalkArith.wf_i64 h.1) w
end Go.Proofs.YthffhhgaeolpgaaGreat.Ga

