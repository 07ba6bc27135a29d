/- Merged texts: Cm1, Cm2, Cm3, Cm4, Cm5, Cm6, Cm7, Cm8, Cm9, Cm10, Cm11, Co17, Cm12, Cm13. -/
import Derived.Test.YtfnmggmgdmokcaaGreatDoorNq13
import Derived.Laws.ResultCell
set_option linter.unusedVariables false
/- Package cohort: a lock in memory: what stays, and what its acts turn. -/
namespace Go.Proofs.YtfnmggmgdmokcaaGreatDoor.Cm
open Go.RowKit Go.Proofs.YtfnmggmgdmokcaaGreatDoor.Ara Go.Proofs.YtfnmggmgdmokcaaGreatDoor.Lok Go.Proofs.YtfnmggmgdmokcaaGreatDoor.Fl Go.Proofs.YtfnmggmgdmokcaaGreatDoor.Co

structure Kp (col : Nat → Nat) (a w : World) : Prop where
  os : w.os = a.os
  tape : w.tape = a.tape
  output : w.output = a.output
  size : a.heap.size ≤ w.heap.size
  block : ∀ k, k < a.heap.size → col k = 0 → w.heap[k]? = a.heap[k]?
theorem Kp.refl (col : Nat → Nat) (w : World) : Kp col w w := ⟨rfl, rfl, rfl, Nat.le_refl _, fun _ _ _ => rfl⟩
theorem Kp.trans {col : Nat → Nat} {a b c : World} (h : Kp col a b) (k : Kp col b c) : Kp col a c :=
  ⟨k.os.trans h.os, k.tape.trans h.tape, k.output.trans h.output, Nat.le_trans h.size k.size, fun i hi hn => (k.block i (Nat.lt_of_lt_of_le hi h.size) hn).trans (h.block i hi hn)⟩
theorem Kp.of_mod {col : Nat → Nat} {S : List Nat} {a w : World} (h : Mod S a w) (hS : ∀ b ∈ S, col b ≠ 0) : Kp col a w := ⟨h.os, h.tape, h.output, h.size, fun k hk hc => h.block k hk (fun hm => hS k hm hc)⟩
theorem Kp.of_below {col : Nat → Nat} {a w : World} (h : Below a.heap.size a w) : Kp col a w := Kp.of_mod (S := []) (Mod.of_below h) (by simp)
theorem Kp.below {col : Nat → Nat} {B : Nat} {a w : World} (h : Kp col a w) (hB : B ≤ a.heap.size) (hc : ∀ b, b < B → col b = 0) : Below B a w := ⟨h.os, h.tape, h.output, h.size, fun k hk => h.block k (by omega) (hc k hk)⟩
theorem Kp.blk {col : Nat → Nat} {a w : World} (h : Kp col a w) {g : Nat} {o : Obj} (hg : a.heap[g]? = some o) (hn : col g = 0) : w.heap[g]? = some o := (h.block g (lt_of_blk hg) hn).trans hg
theorem Kp.cell {col : Nat → Nat} {a w : World} (h : Kp col a w) {p : Addr} (hp : p.block < a.heap.size) (hn : col p.block = 0) : w.cell? p = a.cell? p := by
  unfold World.cell?
  rw [h.block _ hp hn]
theorem Kp.own {col : Nat → Nat} {a w : World} (h : Kp col a w) {base : Nat} {e : TypeId} {size : Nat} {v : Value} {n : Nat} {xs : List Value} (ho : a.ownsRow base e size v n xs) (hn : ∀ b, v.ownBlock = some b → col b = 0) : w.ownsRow base e size v n xs := by
  obtain ⟨h1, h2⟩ := ho
  refine ⟨h1, ?_⟩
  rcases h2 with h2 | ⟨g, cap, cur, rfl, hg, hbk, rest⟩
  · exact .inl h2
  · exact .inr ⟨g, cap, cur, rfl, hg, h.blk hbk (hn g rfl), rest⟩
structure Cd where
  gl : Nat
  gt : Nat
  gn : Nat
  gs : Nat
  hn : Nat
  hs : Nat
  ga : Nat
  ha : Nat
  gf : Nat
  gk : Nat
  gh : Nat
  lf : Nat → Nat
  lk : Nat → Nat
  lh : Nat → Nat
  kg : Int
  kl : Int
  par : Int
  tA : Option Addr
  tc : Nat
  cn : Nat
  cs : Nat
  ch : Nat
  col : Nat → Nat
def lkCells (c : Cd) (P : Pm) : Array Value := #[.pointer (some ⟨c.ga, 0, none⟩), .pointer (some ⟨c.gt, 0, none⟩), .int .i64 c.kg, .int .i64 c.kl, .int .i64 c.par, .int .i64 P.B, .pointer (some ⟨c.gf, 0, none⟩), .slice (some ⟨c.hn, 0, none⟩) P.NN c.ch, .slice (some ⟨c.hs, 0, none⟩) P.T P.T]
structure CoS (W : World) (c : Cd) (P : Pm) : Prop where
  lk_ : W.heap[c.gl]? = some (.cells (lkCells c P) 67 (0, 0))
  t1 : W.cell? ⟨c.gt, 1, none⟩ = some (.slice c.tA P.T c.tc)
  t2 : W.cell? ⟨c.gt, 2, none⟩ = some (.int .u32 1)
  t6 : W.cell? ⟨c.gt, 6, none⟩ = some (.slice (some ⟨c.gn, 0, none⟩) P.T c.cn)
  t7 : W.cell? ⟨c.gt, 7, none⟩ = some (.slice (some ⟨c.gs, 0, none⟩) P.T c.cs)
  rn : ∀ k, k < P.T → W.cell? ⟨c.gn, k, none⟩ = some (.int .i64 (P.nd k : Int))
  rs : ∀ k, k < P.T → W.cell? ⟨c.gs, k, none⟩ = some (.int .i64 (P.sl k : Int))
  nr : ∀ n, n < P.NN → W.cell? ⟨c.hn, n * 2, none⟩ = some (.pointer (some ⟨c.lf n, 0, none⟩)) ∧ W.cell? ⟨c.hn, n * 2 + 1, none⟩ = some (.int .i64 (P.cw n))
  c0 : c.col c.gl = 0 ∧ c.col c.gt = 0 ∧ c.col c.gn = 0 ∧ c.col c.gs = 0 ∧ c.col c.hn = 0 ∧ c.col c.gf = 0 ∧ c.col c.gk = 0
  cl : ∀ n, n < P.NN → c.col (c.lf n) = 0 ∧ c.col (c.lk n) = 0 ∧ c.col (c.lh n) = 5 + n
  ch : c.col c.ga = 1 ∧ c.col c.ha = 2 ∧ c.col c.hs = 3 ∧ c.col c.gh = 4
  sz : c.gt < W.heap.size ∧ c.gn < W.heap.size ∧ c.gs < W.heap.size ∧ c.hn < W.heap.size ∧ c.ha < W.heap.size
  fresh : ∀ b, W.heap.size ≤ b → c.col b = 0
structure CoD (W : World) (c : Cd) (P : Pm) (x : CS) : Prop where
  ar : ArAt W c.ga c.ha x.σ
  sp : SpAt W c.hs x.S
  fg : FLAt W c.gf c.gk c.ga c.ha c.gh P.pg x.σ x.g
  fl : ∀ n, n < P.NN → FLAt W (c.lf n) (c.lk n) c.ga c.ha (c.lh n) (P.pl n) x.σ (x.loc n)
structure CoAt (W : World) (c : Cd) (P : Pm) (x : CS) : Prop where
  s : CoS W c P
  d : CoD W c P x
  len : x.S.length = P.T
structure Lw (c : Cd) (NN B : Nat) : Prop where
  a : (B ≤ c.gl ∧ B ≤ c.gt ∧ B ≤ c.gn ∧ B ≤ c.gs) ∧ (B ≤ c.hn ∧ B ≤ c.hs ∧ B ≤ c.gf ∧ B ≤ c.gk ∧ B ≤ c.gh)
  l : ∀ n, n < NN → B ≤ c.lf n ∧ B ≤ c.lk n ∧ B ≤ c.lh n
section
variable {W W' : World} {c : Cd} {P : Pm}
theorem CoS.kp (h : CoS W c P) (hk : Kp c.col W W') : CoS W' c P := by
  obtain ⟨a1, a2, a3, a4, a5, a6, a7⟩ := h.c0
  obtain ⟨s1, s2, s3, s4, s5⟩ := h.sz
  refine ⟨hk.blk h.lk_ a1, (hk.cell (p := ⟨c.gt, 1, none⟩) s1 a2).trans h.t1, (hk.cell (p := ⟨c.gt, 2, none⟩) s1 a2).trans h.t2, (hk.cell (p := ⟨c.gt, 6, none⟩) s1 a2).trans h.t6, (hk.cell (p := ⟨c.gt, 7, none⟩) s1 a2).trans h.t7,
    fun k hk' => (hk.cell (p := ⟨c.gn, k, none⟩) s2 a3).trans (h.rn k hk'), fun k hk' => (hk.cell (p := ⟨c.gs, k, none⟩) s3 a4).trans (h.rs k hk'),
    fun n hn => ⟨(hk.cell (p := ⟨c.hn, n * 2, none⟩) s4 a5).trans (h.nr n hn).1, (hk.cell (p := ⟨c.hn, n * 2 + 1, none⟩) s4 a5).trans (h.nr n hn).2⟩, h.c0, h.cl, h.ch, ?_, fun b hb => h.fresh b (Nat.le_trans hk.size hb)⟩
  have := hk.size
  omega
variable {x : CS} (K : CoAt W c P x)
include K
theorem CoAt.same (hb : Below W.heap.size W W') : CoAt W' c P x :=
  ⟨K.s.kp (Kp.of_below hb), ⟨K.d.ar.step hb, K.d.sp.mod (S := []) (Mod.of_below hb) (by simp), K.d.fg.same hb, fun n hn => (K.d.fl n hn).same hb⟩, K.len⟩
theorem CoAt.low {B : Nat} (hl : Lw c P.NN B) {S : List Nat} (hm : Mod S W W') (hS : ∀ b ∈ S, b < B ∧ b ≠ c.ga ∧ b ≠ c.ha) : CoAt W' c P x := by
  obtain ⟨⟨a1, a2, a3, a4⟩, a5, a6, a7, a8, a9⟩ := hl.a
  obtain ⟨s1, s2, s3, s4, s5⟩ := K.s.sz
  have ne : ∀ q, B ≤ q → q ∉ S := fun q hq hx => by have := (hS q hx).1; omega
  have n1 : c.ga ∉ S := fun hx => (hS _ hx).2.1 rfl
  have n2 : c.ha ∉ S := fun hx => (hS _ hx).2.2 rfl
  have cm : ∀ (g i : Nat), g < W.heap.size → B ≤ g → W'.cell? ⟨g, i, none⟩ = W.cell? ⟨g, i, none⟩ := fun g i h1 h2 => by
    unfold World.cell?
    rw [hm.block g h1 (ne g h2)]
  have hsz := hm.size
  refine ⟨⟨hm.blk K.s.lk_ (ne _ a1), (cm _ _ s1 a2).trans K.s.t1, (cm _ _ s1 a2).trans K.s.t2, (cm _ _ s1 a2).trans K.s.t6, (cm _ _ s1 a2).trans K.s.t7, fun k hk => (cm _ _ s2 a3).trans (K.s.rn k hk), fun k hk => (cm _ _ s3 a4).trans (K.s.rs k hk), fun n hn => ⟨(cm _ _ s4 a5).trans (K.s.nr n hn).1, (cm _ _ s4 a5).trans (K.s.nr n hn).2⟩, K.s.c0, K.s.cl, K.s.ch, by omega, fun b hb => K.s.fresh b (by omega)⟩,
    ⟨K.d.ar.mod hm n1 n2, K.d.sp.mod hm (ne _ a6), K.d.fg.mod hm (ne _ a7) (ne _ a8) n1 n2 (ne _ a9), fun n hn => ?_⟩, K.len⟩
  obtain ⟨l1, l2, l3⟩ := hl.l n hn
  exact (K.d.fl n hn).mod hm (ne _ l1) (ne _ l2) n1 n2 (ne _ l3)
theorem CoAt.wrd {σ' : Ar} (ha : ArAt W' c.ga c.ha σ') (hm : Mod [c.ga, c.ha] W W') : CoAt W' c P { x with σ := σ' } ∧ Kp c.col W W' := by
  obtain ⟨h1, h2, h3, h4⟩ := K.s.ch
  obtain ⟨_, _, _, _, _, a6, a7⟩ := K.s.c0
  have ne : ∀ b, c.col b ≠ 1 → c.col b ≠ 2 → b ∉ [c.ga, c.ha] := fun b q1 q2 hb => by
    simp at hb
    rcases hb with e | e <;> (rw [e] at q1 q2; omega)
  have hk : Kp c.col W W' := Kp.of_mod hm (fun b hb => by
    simp at hb
    rcases hb with e | e <;> (rw [e]; omega))
  refine ⟨⟨K.s.kp hk, ⟨ha, K.d.sp.mod hm (ne _ (by omega) (by omega)), K.d.fg.arena hm (ne _ (by omega) (by omega)) (ne _ (by omega) (by omega)) (ne _ (by omega) (by omega)) ha, fun n hn => ?_⟩, K.len⟩, hk⟩
  obtain ⟨b1, b2, b3⟩ := K.s.cl n hn
  exact (K.d.fl n hn).arena hm (ne _ (by omega) (by omega)) (ne _ (by omega) (by omega)) (ne _ (by omega) (by omega)) ha
theorem CoAt.loc {n : Nat} (hn : n < P.NN) {σ' : Ar} {l' : List Sp} (hf : FLAt W' (c.lf n) (c.lk n) c.ga c.ha (c.lh n) (P.pl n) σ' l') (hm : Mod [c.ga, c.ha, c.lh n] W W') : CoAt W' c P { x with σ := σ', loc := upd x.loc n l' } ∧ Kp c.col W W' := by
  obtain ⟨h1, h2, h3, h4⟩ := K.s.ch
  obtain ⟨_, _, _, _, _, a6, a7⟩ := K.s.c0
  obtain ⟨_, _, bn⟩ := K.s.cl n hn
  have ha := hf.at_.facts.1
  have ne : ∀ b, c.col b ≠ 1 → c.col b ≠ 2 → c.col b ≠ 5 + n → b ∉ [c.ga, c.ha, c.lh n] := fun b q1 q2 q3 hb => by
    simp at hb
    rcases hb with e | e | e <;> (rw [e] at q1 q2 q3; omega)
  have hk : Kp c.col W W' := Kp.of_mod hm (fun b hb => by
    simp at hb
    rcases hb with e | e | e <;> (rw [e]; omega))
  refine ⟨⟨K.s.kp hk, ⟨ha, K.d.sp.mod hm (ne _ (by omega) (by omega) (by omega)), K.d.fg.arena hm (ne _ (by omega) (by omega) (by omega)) (ne _ (by omega) (by omega) (by omega)) (ne _ (by omega) (by omega) (by omega)) ha, fun k hkk => ?_⟩, K.len⟩, hk⟩
  obtain ⟨b1, b2, b3⟩ := K.s.cl k hkk
  by_cases e : k = n
  · subst e
    show FLAt W' _ _ _ _ _ _ _ (upd x.loc k l' k)
    rw [upd_self]
    exact hf
  · show FLAt W' _ _ _ _ _ _ _ (upd x.loc n l' k)
    rw [upd_other _ _ e]
    exact (K.d.fl k hkk).arena hm (ne _ (by omega) (by omega) (by omega)) (ne _ (by omega) (by omega) (by omega)) (ne _ (by omega) (by omega) (by omega)) ha
theorem CoAt.spot {k : Nat} (hk : k < P.T) (j : Nat) (hj : j < 4) (v : Value) (s' : Sp) (hv : decSp s' = (decSp (spOf x.S (k : Int))).set j v) : CoAt (W.setCell ⟨c.hs, k * 4 + j, none⟩ v) c P { x with S := x.S.set k s' } ∧ Kp c.col W (W.setCell ⟨c.hs, k * 4 + j, none⟩ v) := by
  obtain ⟨h1, h2, h3, h4⟩ := K.s.ch
  obtain ⟨_, _, _, _, _, a6, a7⟩ := K.s.c0
  have hm : Mod [c.hs] W (W.setCell ⟨c.hs, k * 4 + j, none⟩ v) := (Mod.refl _ _).setCell (by simp) _
  have ne : ∀ b, c.col b ≠ 3 → b ∉ [c.hs] := fun b q1 hb => by
    simp at hb
    rw [hb] at q1
    omega
  have hkp : Kp c.col W (W.setCell ⟨c.hs, k * 4 + j, none⟩ v) := Kp.of_mod hm (fun b hb => by
    simp at hb
    rw [hb]; omega)
  have hl : k < x.S.length := by rw [K.len]; exact hk
  have ha := K.d.ar.mod hm (ne _ (by omega)) (ne _ (by omega))
  refine ⟨⟨K.s.kp hkp, ⟨ha, K.d.sp.set k hl j hj v s' (by rw [hv, spOf_in hl]), K.d.fg.mod hm (ne _ (by omega)) (ne _ (by omega)) (ne _ (by omega)) (ne _ (by omega)) (ne _ (by omega)), fun n hn => ?_⟩, by show (x.S.set k s').length = _; rw [List.length_set]; exact K.len⟩, hkp⟩
  obtain ⟨b1, b2, b3⟩ := K.s.cl n hn
  exact (K.d.fl n hn).mod hm (ne _ (by omega)) (ne _ (by omega)) (ne _ (by omega)) (ne _ (by omega)) (ne _ (by omega))
theorem CoAt.cells : W.cell? ⟨c.gl, 0, none⟩ = some (.pointer (some ⟨c.ga, 0, none⟩)) ∧ W.cell? ⟨c.gl, 1, none⟩ = some (.pointer (some ⟨c.gt, 0, none⟩)) ∧ W.cell? ⟨c.gl, 5, none⟩ = some (.int .i64 P.B) ∧ W.cell? ⟨c.gl, 6, none⟩ = some (.pointer (some ⟨c.gf, 0, none⟩)) ∧
    W.cell? ⟨c.gl, 7, none⟩ = some (.slice (some ⟨c.hn, 0, none⟩) P.NN c.ch) ∧ W.cell? ⟨c.gl, 8, none⟩ = some (.slice (some ⟨c.hs, 0, none⟩) P.T P.T) :=
  ⟨blk_cell K.s.lk_ 0 (by simp [lkCells]), blk_cell K.s.lk_ 1 (by simp [lkCells]), blk_cell K.s.lk_ 5 (by simp [lkCells]), blk_cell K.s.lk_ 6 (by simp [lkCells]), blk_cell K.s.lk_ 7 (by simp [lkCells]), blk_cell K.s.lk_ 8 (by simp [lkCells])⟩
theorem CoAt.spots {k : Nat} (hk : k < P.T) : W.cell? ⟨c.hs, k * 4, none⟩ = some (.int .i64 (spOf x.S (k : Int)).pc) ∧ W.cell? ⟨c.hs, k * 4 + 1, none⟩ = some (.int .i64 (spOf x.S (k : Int)).a) ∧ W.cell? ⟨c.hs, k * 4 + 2, none⟩ = some (.int .i64 (spOf x.S (k : Int)).b) ∧ W.cell? ⟨c.hs, k * 4 + 3, none⟩ = some (.int .i64 (spOf x.S (k : Int)).c) ∧ ∀ j, W.frozen? ⟨c.hs, j, none⟩ = false := by
  have hl : k < x.S.length := by rw [K.len]; exact hk
  rw [spOf_in hl]
  exact K.d.sp.cells k hl
theorem CoAt.lt : c.gl < W.heap.size ∧ c.hs < W.heap.size := ⟨lt_of_blk K.s.lk_, K.d.sp.lt⟩
end
end Go.Proofs.YtfnmggmgdmokcaaGreatDoor.Cm

/- Package cohort: what a lock tells: threads, spots, counts; a thread's node. -/
namespace Go.Proofs.YtfnmggmgdmokcaaGreatDoor.Cm
open Go.RowKit Go.Proofs.YtfnmggmgdmokcaaGreatDoor.Ara Go.Proofs.YtfnmggmgdmokcaaGreatDoor.Lok Go.Proofs.YtfnmggmgdmokcaaGreatDoor.Fl Go.Proofs.YtfnmggmgdmokcaaGreatDoor.Co

section
variable {W : World} {c : Cd} {P : Pm} {x : CS} (K : CoAt W c P x)
include K
theorem CoAt.out {i : Int} (hi : i < 0 ∨ (P.T : Int) ≤ i) : spOf x.S i = sp0 := spOf_out (by have := K.len; omega)
end
end Go.Proofs.YtfnmggmgdmokcaaGreatDoor.Cm

/- Package cohort: a thread's node, its place and its slot. -/
namespace Go.Proofs.YtfnmggmgdmokcaaGreatDoor.Cm
open Go.RowKit Go.Proofs.YtfnmggmgdmokcaaGreatDoor.Ara Go.Proofs.YtfnmggmgdmokcaaGreatDoor.Lok Go.Proofs.YtfnmggmgdmokcaaGreatDoor.Fl Go.Proofs.YtfnmggmgdmokcaaGreatDoor.Co

section
variable {W : World} {c : Cd} {P : Pm} {x : CS} (K : CoAt W c P x)
include K
end
end Go.Proofs.YtfnmggmgdmokcaaGreatDoor.Cm

/- Package cohort: who is behind its local doorway; how far a node is with the global lock. -/
namespace Go.Proofs.YtfnmggmgdmokcaaGreatDoor.Cm
open Go.RowKit Go.Proofs.YtfnmggmgdmokcaaGreatDoor.Ara Go.Proofs.YtfnmggmgdmokcaaGreatDoor.Lok Go.Proofs.YtfnmggmgdmokcaaGreatDoor.Fl Go.Proofs.YtfnmggmgdmokcaaGreatDoor.Co

section
variable {W : World} {c : Cd} {P : Pm} {x : CS} (K : CoAt W c P x)
include K
end
end Go.Proofs.YtfnmggmgdmokcaaGreatDoor.Cm

/- Package cohort: Ask and Leave. -/
namespace Go.Proofs.YtfnmggmgdmokcaaGreatDoor.Cm
open Go.RowKit Go.Proofs.YtfnmggmgdmokcaaGreatDoor.Ara Go.Proofs.YtfnmggmgdmokcaaGreatDoor.Lok Go.Proofs.YtfnmggmgdmokcaaGreatDoor.Fl Go.Proofs.YtfnmggmgdmokcaaGreatDoor.Co

section
variable {W : World} {c : Cd} {P : Pm} {x : CS} (K : CoAt W c P x)
include K
end
end Go.Proofs.YtfnmggmgdmokcaaGreatDoor.Cm

/- Package cohort: a step of one that comes in. -/
namespace Go.Proofs.YtfnmggmgdmokcaaGreatDoor.Cm
open Go.RowKit Go.Proofs.YtfnmggmgdmokcaaGreatDoor.Ara Go.Proofs.YtfnmggmgdmokcaaGreatDoor.Lok Go.Proofs.YtfnmggmgdmokcaaGreatDoor.Fl Go.Proofs.YtfnmggmgdmokcaaGreatDoor.Co


section
variable {W : World} {c : Cd} {P : Pm} {x : CS} (K : CoAt W c P x) (D : Dj P) {m : Nat} (H : CI P x m) (hm : m ≤ 100000) (k : Nat) (hk : k < P.T)
include K D H hm hk
end
end Go.Proofs.YtfnmggmgdmokcaaGreatDoor.Cm

/- Package cohort: the step that loads a node's count, coming in and going out. -/
namespace Go.Proofs.YtfnmggmgdmokcaaGreatDoor.Cm
open Go.RowKit Go.Proofs.YtfnmggmgdmokcaaGreatDoor.Ara Go.Proofs.YtfnmggmgdmokcaaGreatDoor.Lok Go.Proofs.YtfnmggmgdmokcaaGreatDoor.Fl Go.Proofs.YtfnmggmgdmokcaaGreatDoor.Co


section
variable {W : World} {c : Cd} {P : Pm} {x : CS} (K : CoAt W c P x) (D : Dj P) {m : Nat} (H : CI P x m) (hm : m ≤ 99999) (k : Nat) (hk : k < P.T)
include K D H hm hk
end
end Go.Proofs.YtfnmggmgdmokcaaGreatDoor.Cm

/- Package cohort: a step of one that goes out. -/
namespace Go.Proofs.YtfnmggmgdmokcaaGreatDoor.Cm
open Go.RowKit Go.Proofs.YtfnmggmgdmokcaaGreatDoor.Ara Go.Proofs.YtfnmggmgdmokcaaGreatDoor.Lok Go.Proofs.YtfnmggmgdmokcaaGreatDoor.Fl Go.Proofs.YtfnmggmgdmokcaaGreatDoor.Co


section
variable {W : World} {c : Cd} {P : Pm} {x : CS} (K : CoAt W c P x) (D : Dj P) {m : Nat} (H : CI P x m) (hm : m ≤ 99999) (k : Nat) (hk : k < P.T)
include K D H hm hk
end
end Go.Proofs.YtfnmggmgdmokcaaGreatDoor.Cm

/- Package cohort: the steps by which who goes out hands on within its node. -/
namespace Go.Proofs.YtfnmggmgdmokcaaGreatDoor.Cm
open Go.RowKit Go.Proofs.YtfnmggmgdmokcaaGreatDoor.Ara Go.Proofs.YtfnmggmgdmokcaaGreatDoor.Lok Go.Proofs.YtfnmggmgdmokcaaGreatDoor.Fl Go.Proofs.YtfnmggmgdmokcaaGreatDoor.Co


section
variable {W : World} {c : Cd} {P : Pm} {x : CS} (K : CoAt W c P x) (D : Dj P) {m : Nat} (H : CI P x m) (hm : m ≤ 99999) (k : Nat) (hk : k < P.T)
include K D H hm hk
end
end Go.Proofs.YtfnmggmgdmokcaaGreatDoor.Cm

/- Package cohort: Step; an act of a law. -/
namespace Go.Proofs.YtfnmggmgdmokcaaGreatDoor.Cm
open Go.RowKit Go.Proofs.YtfnmggmgdmokcaaGreatDoor.Ara Go.Proofs.YtfnmggmgdmokcaaGreatDoor.Lok Go.Proofs.YtfnmggmgdmokcaaGreatDoor.Fl Go.Proofs.YtfnmggmgdmokcaaGreatDoor.Co

section
variable {W : World} {c : Cd} {P : Pm} {x : CS} (K : CoAt W c P x)
include K
end
end Go.Proofs.YtfnmggmgdmokcaaGreatDoor.Cm

/- Package cohort: Step, whatever the thread is at; an act of a law. -/
namespace Go.Proofs.YtfnmggmgdmokcaaGreatDoor.Cm
open Go.RowKit Go.Proofs.YtfnmggmgdmokcaaGreatDoor.Ara Go.Proofs.YtfnmggmgdmokcaaGreatDoor.Lok Go.Proofs.YtfnmggmgdmokcaaGreatDoor.Fl Go.Proofs.YtfnmggmgdmokcaaGreatDoor.Co

section
variable {W : World} {c : Cd} {P : Pm} {x : CS} (K : CoAt W c P x) (D : Dj P) {m : Nat} (H : CI P x m) (hm : m ≤ 99999) (hB : Bud.right P.B = true)
include K D H hm hB
end
end Go.Proofs.YtfnmggmgdmokcaaGreatDoor.Cm

/- A global lock of nodes, a local one of the threads of each: how New leaves it, and that it stands: the plain law. -/
namespace Go.Proofs.YtfnmggmgdmokcaaGreatDoor.Co
open Go.RowKit Go.Proofs.YtfnmggmgdmokcaaGreatDoor.Ara Go.Proofs.YtfnmggmgdmokcaaGreatDoor.Lok Go.Proofs.YtfnmggmgdmokcaaGreatDoor.Fl

structure Gr (d : Nat) (σ σ' : Ar) : Prop where
  t : σ.t ≤ σ'.t
  len : σ'.ws.length = σ.ws.length
  hl : σ'.t ≤ σ'.ws.length
  get : ∀ q : Int, q ≤ σ.t → σ'.get q = σ.get q
  z : (∀ k, σ.t ≤ k → σ.ws.getD k 0 = 0) → ∀ k, σ'.t ≤ k → σ'.ws.getD k 0 = 0
  ops : σ.ops ≤ σ'.ops ∧ σ'.ops ≤ σ.ops + d
theorem get_more {σ : Ar} {t' : Nat} (h : σ.t ≤ t') {q : Int} (hq : q ≤ σ.t) : ({ σ with t := t' } : Ar).get q = σ.get q := by
  have e : ({ σ with t := t' } : Ar).has q = σ.has q := by
    show (decide (1 ≤ q) && decide (q ≤ (t' : Int))) = (decide (1 ≤ q) && decide (q ≤ (σ.t : Int)))
    rw [decide_eq_true (show q ≤ (t' : Int) by omega), decide_eq_true hq]
  unfold Ar.get
  rw [e]
theorem Gr.refl {σ : Ar} (h : σ.t ≤ σ.ws.length) : Gr 0 σ σ := ⟨Nat.le_refl _, rfl, h, fun _ _ => rfl, fun h => h, Nat.le_refl _, Nat.le_refl _⟩
theorem Gr.trans {a b : Nat} {σ σ' σ'' : Ar} (h : Gr a σ σ') (k : Gr b σ' σ'') : Gr (a + b) σ σ'' :=
  ⟨Nat.le_trans h.t k.t, k.len.trans h.len, k.hl, fun q hq => (k.get q (by have := h.t; omega)).trans (h.get q hq), fun hz => k.z (h.z hz), by have := h.ops; have := k.ops; omega⟩
theorem Gr.le {a b : Nat} {σ σ' : Ar} (h : Gr a σ σ') (hab : a ≤ b) : Gr b σ σ' := ⟨h.t, h.len, h.hl, h.get, h.z, by have := h.ops; omega⟩
theorem gr_more {σ : Ar} {m : Nat} (h : σ.t + m ≤ σ.ws.length) : Gr 0 σ { σ with t := σ.t + m } :=
  ⟨by show σ.t ≤ σ.t + m; omega, rfl, h, fun q hq => get_more (Nat.le_add_right _ _) hq, fun hz k hk => hz k (by have : σ.t + m ≤ k := hk; omega), Nat.le_refl _, Nat.le_refl _⟩
theorem Gr.op {σ σ' : Ar} (h : Gr 0 σ σ') (kd p v : Int) (hp : (σ.t : Int) < p) : Gr 1 σ (σ'.op kd p true v) := by
  have ho := op_ops σ' kd p v true
  have h0 := h.ops
  refine ⟨by rw [op_t]; exact h.t, by rw [op_len]; exact h.len, by rw [op_t, op_len]; exact h.hl, fun q hq => ?_, fun hz k hk => ?_, ?_⟩
  · rw [get_op _ h.hl, if_neg (by omega)]
    exact h.get q hq
  · rw [op_t] at hk
    unfold Ar.op
    by_cases hh : σ'.has p = true
    · rw [if_pos hh]
      have h2 := hh
      unfold Ar.has at h2
      rw [Bool.and_eq_true, decide_eq_true_eq, decide_eq_true_eq] at h2
      show (σ'.ws.set (p - 1).toNat v).getD k 0 = 0
      rw [List.getD_eq_getElem?_getD, List.getElem?_set_ne (by omega), ← List.getD_eq_getElem?_getD]
      exact h.z hz k hk
    · rw [if_neg hh]
      exact h.z hz k hk
  · rw [ho]
    split <;> omega
def tak (kind : Int) (n : Nat) (par : Int) (σ : Ar) : Ar × List Sp := firstK kind n par (σ.t + 1) { σ with t := σ.t + sizeK kind n par }
section
variable {kind par : Int} {n : Nat} {σ : Ar} (hM : mayK kind n par) (hr : σ.t + sizeK kind n par ≤ σ.ws.length)
include hM hr
theorem tak_gr : Gr 1 σ (tak kind n par σ).1 ∧ (tak kind n par σ).1.t = σ.t + sizeK kind n par := by
  obtain ⟨⟨k1, k5⟩, ⟨n1, n2⟩, ha1, ha3⟩ := hM
  have g := gr_more hr
  rcases (show kind = 1 ∨ kind = 2 ∨ kind = 3 ∨ kind = 4 ∨ kind = 5 by omega) with rfl | rfl | rfl | rfl | rfl
  · exact ⟨g.le (by omega), rfl⟩
  · exact ⟨g.le (by omega), rfl⟩
  · obtain ⟨p1, p2⟩ := ha3 rfl
    refine ⟨g.op 2 _ _ ?_, by show (Ar.op _ _ _ _ _).t = _; rw [op_t]⟩
    obtain ⟨x, x0, x1, e⟩ := Pt.place_in (P := ⟨((σ.t + 1 : Nat) : Int), par⟩) p1 0
    show (σ.t : Int) < Pt.place ⟨((σ.t + 1 : Nat) : Int), par⟩ 0
    rw [e]
    show (σ.t : Int) < ((σ.t + 1 : Nat) : Int) + 1 + x
    omega
  · exact ⟨g.le (by omega), rfl⟩
  · exact ⟨g.op 2 _ _ (by omega), by show (Ar.op _ _ _ _ _).t = _; rw [op_t]⟩
end
structure Nw where
  kg : Int
  kl : Int
  par : Int
  B : Int
  NN : Nat
  T : Nat
  mt : Nat → Nat
  nd : Nat → Nat
  sl : Nat → Nat
def Nw.tN (c : Nw) (t0 : Nat) : Nat → Nat
  | 0 => t0 + sizeK c.kg c.NN c.par
  | n + 1 => c.tN t0 n + sizeK c.kl (c.mt n) c.par + 1
def Nw.σN (c : Nw) (σ0 : Ar) : Nat → Ar
  | 0 => (tak c.kg c.NN c.par σ0).1
  | n + 1 => { (tak c.kl (c.mt n) c.par (c.σN σ0 n)).1 with t := (tak c.kl (c.mt n) c.par (c.σN σ0 n)).1.t + 1 }
def Nw.pm (c : Nw) (σ0 : Ar) : Pm := ⟨c.NN, c.T, pkK c.kg c.par (σ0.t + 1), fun n => pkK c.kl c.par ((c.σN σ0 n).t + 1), c.mt, fun n => ((c.σN σ0 (n + 1)).t : Int), c.nd, c.sl, c.B⟩
def Nw.st (c : Nw) (σ0 : Ar) : CS := ⟨c.σN σ0 c.NN, (tak c.kg c.NN c.par σ0).2, fun n => (tak c.kl (c.mt n) c.par (c.σN σ0 n)).2, List.replicate c.T sp0⟩
structure Nw.Ok (c : Nw) : Prop where
  g : mayK c.kg c.NN c.par
  l : ∀ n, n < c.NN → mayK c.kl (c.mt n) c.par
  nd : ∀ t, t < c.T → c.nd t < c.NN ∧ c.sl t < c.mt (c.nd t)
  inj : ∀ t u, t < c.T → u < c.T → c.nd t = c.nd u → c.sl t = c.sl u → t = u
  B0 : 0 ≤ c.B
theorem Nw.tN_le (c : Nw) (t0 : Nat) {n k : Nat} (h : n ≤ k) : c.tN t0 n ≤ c.tN t0 k := by
  induction k with
  | zero => obtain rfl : n = 0 := by omega
            exact Nat.le_refl _
  | succ k ih =>
    by_cases e : n = k + 1
    · rw [e]; exact Nat.le_refl _
    · have := ih (by omega)
      show _ ≤ c.tN t0 k + sizeK c.kl (c.mt k) c.par + 1
      omega
section
variable {c : Nw} (O : c.Ok) {σ0 : Ar} (hr : c.tN σ0.t c.NN ≤ σ0.ws.length)
include O hr
theorem Nw.σ_gr : ∀ n, n ≤ c.NN → Gr (n + 1) σ0 (c.σN σ0 n) ∧ (c.σN σ0 n).t = c.tN σ0.t n
  | 0, _ => by
    have h0 := c.tN_le σ0.t (Nat.zero_le c.NN)
    have e : c.tN σ0.t 0 = σ0.t + sizeK c.kg c.NN c.par := rfl
    have := tak_gr O.g (σ := σ0) (by omega)
    exact ⟨this.1, this.2⟩
  | n + 1, hn => by
    obtain ⟨g, ht⟩ := Nw.σ_gr n (by omega)
    have h0 := c.tN_le σ0.t hn
    have e : c.tN σ0.t (n + 1) = c.tN σ0.t n + sizeK c.kl (c.mt n) c.par + 1 := rfl
    have hlen := g.len
    obtain ⟨g1, ht1⟩ := tak_gr (O.l n (by omega)) (σ := c.σN σ0 n) (by omega)
    have hlen1 := g1.len
    have g2 := gr_more (σ := (tak c.kl (c.mt n) c.par (c.σN σ0 n)).1) (m := 1) (by omega)
    refine ⟨(g.trans (g1.trans g2)).le (by omega), ?_⟩
    show (tak c.kl (c.mt n) c.par (c.σN σ0 n)).1.t + 1 = _
    omega
theorem Nw.room {n : Nat} (hn : n < c.NN) : (c.σN σ0 n).t + sizeK c.kl (c.mt n) c.par + 1 ≤ (c.σN σ0 n).ws.length := by
  obtain ⟨g, ht⟩ := Nw.σ_gr O hr n (by omega)
  have h0 := c.tN_le σ0.t (show n + 1 ≤ c.NN from hn)
  have e : c.tN σ0.t (n + 1) = c.tN σ0.t n + sizeK c.kl (c.mt n) c.par + 1 := rfl
  rw [g.len]
  omega
omit O in
theorem Nw.room0 : σ0.t + sizeK c.kg c.NN c.par ≤ σ0.ws.length := by
  have h0 := c.tN_le σ0.t (Nat.zero_le c.NN)
  have e : c.tN σ0.t 0 = σ0.t + sizeK c.kg c.NN c.par := rfl
  omega
variable (hz : ∀ k, σ0.t ≤ k → σ0.ws.getD k 0 = 0) (hw : σ0.ws.length ≤ 4096)
include hz hw
end
end Go.Proofs.YtfnmggmgdmokcaaGreatDoor.Co

/- Package cohort: what New has of memory, node by node. -/
namespace Go.Proofs.YtfnmggmgdmokcaaGreatDoor.Cm
open Go.RowKit Go.Proofs.YtfnmggmgdmokcaaGreatDoor.Ara Go.Proofs.YtfnmggmgdmokcaaGreatDoor.Lok Go.Proofs.YtfnmggmgdmokcaaGreatDoor.Fl Go.Proofs.YtfnmggmgdmokcaaGreatDoor.Co

structure Bl where
  gl : Nat
  gt : Nat
  gn : Nat
  gs : Nat
  gm : Nat
  hs : Nat
  ga : Nat
  ha : Nat
  gf : Nat
  gk : Nat
  gh : Nat
  gp : Nat
  tA : Option Addr
  tB : Option Addr
  lA : Nat
  tc : Nat
  td : Nat
  vu : Value
  cn : Nat
  cs : Nat
def ndCells (c : Nw) (σ0 : Ar) (lf : Nat → Nat) (k : Nat) : List Value := (List.range k).flatMap fun n => [.pointer (some ⟨lf n, 0, none⟩), .int .i64 ((c.pm σ0).cw n)]
def nwCells (b : Bl) (c : Nw) (vg v : Value) : Array Value := #[.pointer (some ⟨b.ga, 0, none⟩), .pointer (some ⟨b.gt, 0, none⟩), .int .i64 c.kg, .int .i64 c.kl, .int .i64 c.par, .int .i64 c.B, vg, v, .slice (some ⟨b.hs, 0, none⟩) c.T c.T]
structure NwW (w : World) (B0 : Nat) (b : Bl) (c : Nw) (σ0 : Ar) (ms : List Int) (j k : Nat) (σ : Ar) (lf lk lh col : Nat → Nat) (v : Value) (W : World) : Prop where
  lk_ : W.heap[b.gl]? = some (.cells (nwCells b c (.pointer (some ⟨b.gf, 0, none⟩)) v) 67 (0, 0))
  pr : W.heap[b.gp]? = some (.cells #[.int .i64 c.kg, .int .i64 c.kl, .int .i64 c.par, .int .i64 c.B] 23 (0, 0))
  tb : Pa.TbB W b.gt (.slice b.tA b.lA b.tc) (.slice b.tB c.T b.td) 1 0 b.vu (.slice (some ⟨b.gn, 0, none⟩) c.T b.cn) (.slice (some ⟨b.gs, 0, none⟩) c.T b.cs) (.slice (some ⟨b.gm, 0, none⟩) c.NN c.NN)
  rn : ∀ k, k < c.T → W.cell? ⟨b.gn, k, none⟩ = some (.int .i64 (c.nd k : Int))
  rs : ∀ k, k < c.T → W.cell? ⟨b.gs, k, none⟩ = some (.int .i64 (c.sl k : Int))
  rm : ∀ n, n < c.NN → W.cell? ⟨b.gm, n, none⟩ = some (.int .i64 (ms.getD n 0))
  ar : ArAt W b.ga b.ha σ
  sp : SpAt W b.hs (List.replicate c.T sp0)
  fg : FLAt W b.gf b.gk b.ga b.ha b.gh (c.pm σ0).pg σ (tak c.kg c.NN c.par σ0).2
  fl : ∀ n, n < j → FLAt W (lf n) (lk n) b.ga b.ha (lh n) ((c.pm σ0).pl n) σ (tak c.kl (c.mt n) c.par (c.σN σ0 n)).2
  nr : W.ownsRow B0 73 2 v k (ndCells c σ0 lf k)
  cv : ∀ q, v.ownBlock = some q → col q = 0 ∧ ∀ n, n < j → q ≠ lf n ∧ q ≠ lk n ∧ q ≠ lh n
  c0 : (col b.gl = 0 ∧ col b.gt = 0 ∧ col b.gn = 0 ∧ col b.gs = 0) ∧ (col b.gm = 0 ∧ col b.gf = 0 ∧ col b.gk = 0 ∧ col b.gp = 0)
  cl : ∀ n, n < j → col (lf n) = 0 ∧ col (lk n) = 0 ∧ col (lh n) = 5 + n
  ch : col b.ga = 1 ∧ col b.ha = 2 ∧ col b.hs = 3 ∧ col b.gh = 4
  pre : ((b.gl < B0 ∧ b.gt < B0 ∧ b.gn < B0 ∧ b.gs < B0) ∧ (b.gm < B0 ∧ b.gf < B0 ∧ b.gk < B0 ∧ b.gp < B0)) ∧ (b.ga < B0 ∧ b.ha < B0 ∧ b.hs < B0 ∧ b.gh < B0)
  sz : w.heap.size ≤ B0 ∧ B0 ≤ W.heap.size
  fresh : ∀ q, W.heap.size ≤ q → col q = 0
  old : ∀ q, q < w.heap.size → q ≠ b.ga → q ≠ b.ha → col q = 0
  md : Mod [b.ga, b.ha] w W
  gl0 : w.heap.size ≤ b.gl
  gne : (b.gl ≠ b.gt ∧ b.gl ≠ b.gn ∧ b.gl ≠ b.gs ∧ b.gl ≠ b.gm) ∧ b.gl ≠ b.gf ∧ b.gl ≠ b.gk ∧ b.gl ≠ b.gp
  lo : ∀ n, n < j → B0 ≤ lf n ∧ B0 ≤ lk n ∧ B0 ≤ lh n
theorem ndCells_succ (c : Nw) (σ0 : Ar) (lf : Nat → Nat) (k : Nat) : ndCells c σ0 lf (k + 1) = ndCells c σ0 lf k ++ [.pointer (some ⟨lf k, 0, none⟩), .int .i64 ((c.pm σ0).cw k)] := by
  unfold ndCells
  rw [List.range_succ, List.flatMap_append]
  simp
theorem ndCells_same (c : Nw) (σ0 : Ar) {lf lf' : Nat → Nat} {k : Nat} (h : ∀ n, n < k → lf' n = lf n) : ndCells c σ0 lf' k = ndCells c σ0 lf k := by
  induction k with
  | zero => rfl
  | succ k ih => rw [ndCells_succ, ndCells_succ, ih (fun n hn => h n (by omega)), h k (by omega)]
section
variable {w : World} {B0 : Nat} {b : Bl} {c : Nw} {σ0 : Ar} {ms : List Int} {j k : Nat} {σ σ' : Ar} {lf lk lh col : Nat → Nat} {v : Value} {W W' : World} (h : NwW w B0 b c σ0 ms j k σ lf lk lh col v W)
include h
theorem NwW.ne {q : Nat} (hq : col q ≠ 1 ∧ col q ≠ 2) : q ∉ [b.ga, b.ha] := fun hm => by
  obtain ⟨h1, h2, _, _⟩ := h.ch
  simp at hm
  rcases hm with e | e <;> (rw [e] at hq; omega)
theorem NwW.wrd (ha : ArAt W' b.ga b.ha σ') (hm : Mod [b.ga, b.ha] W W') : NwW w B0 b c σ0 ms j k σ' lf lk lh col v W' := by
  obtain ⟨⟨a1, a2, a3, a4⟩, a5, a6, a7, a8⟩ := h.c0
  obtain ⟨h1, h2, h3, h4⟩ := h.ch
  obtain ⟨⟨⟨p1, p2, p3, p4⟩, p5, p6, p7, p8⟩, p9, p10, p11, p12⟩ := h.pre
  obtain ⟨z1, z2⟩ := h.sz
  have ne := fun q hq => h.ne (q := q) hq
  have hsz := hm.size
  refine ⟨hm.blk h.lk_ (ne _ (by omega)), hm.blk h.pr (ne _ (by omega)), h.tb.mod hm (ne _ (by omega)), fun k hk => (Pa.cell_mod hm (p := ⟨b.gn, k, none⟩) (by show b.gn < _; omega) (ne _ (by show col b.gn ≠ 1 ∧ col b.gn ≠ 2; omega))).trans (h.rn k hk), fun k hk => (Pa.cell_mod hm (p := ⟨b.gs, k, none⟩) (by show b.gs < _; omega) (ne _ (by show col b.gs ≠ 1 ∧ col b.gs ≠ 2; omega))).trans (h.rs k hk),
    fun k hk => (Pa.cell_mod hm (p := ⟨b.gm, k, none⟩) (by show b.gm < _; omega) (ne _ (by show col b.gm ≠ 1 ∧ col b.gm ≠ 2; omega))).trans (h.rm k hk), ha, h.sp.mod hm (ne _ (by omega)), h.fg.arena hm (ne _ (by omega)) (ne _ (by omega)) (ne _ (by omega)) ha, fun n hn => ?_, Tp.own_apart h.nr hm (fun q hq => ne _ (by have := (h.cv q hq).1; omega)), h.cv, h.c0, h.cl, h.ch, h.pre, ⟨z1, by omega⟩, fun q hq => h.fresh q (by omega), h.old, h.md.trans hm, h.gl0, h.gne, h.lo⟩
  obtain ⟨b1, b2, b3⟩ := h.cl n hn
  exact (h.fl n hn).arena hm (ne _ (by omega)) (ne _ (by omega)) (ne _ (by omega)) ha
theorem NwW.same (hb : Below W.heap.size W W') : NwW w B0 b c σ0 ms j k σ lf lk lh col v W' := h.wrd (h.ar.step hb) (Mod.of_below hb)
theorem NwW.mk1 (hkj : k ≤ j) {gf gk gh : Nat} (hf : FLAt W' gf gk b.ga b.ha gh ((c.pm σ0).pl j) σ' (tak c.kl (c.mt j) c.par (c.σN σ0 j)).2) (hg : W.heap.size ≤ gf ∧ W.heap.size ≤ gk ∧ W.heap.size ≤ gh) (hm : Mod [b.ga, b.ha] W W') :
    NwW w B0 b c σ0 ms (j + 1) k σ' (upd lf j gf) (upd lk j gk) (upd lh j gh) (upd col gh (5 + j)) v W' := by
  obtain ⟨⟨⟨p1, p2, p3, p4⟩, p5, p6, p7, p8⟩, p9, p10, p11, p12⟩ := h.pre
  obtain ⟨z1, z2⟩ := h.sz
  obtain ⟨⟨a1, a2, a3, a4⟩, a5, a6, a7, a8⟩ := h.c0
  obtain ⟨h1, h2, h3, h4⟩ := h.ch
  obtain ⟨g1, g2, g3⟩ := hg
  have H1 := h.wrd hf.at_.facts.1 hm
  have up : ∀ q, q < W.heap.size → upd col gh (5 + j) q = col q := fun q hq => upd_other _ _ (by omega)
  have uf : ∀ (f : Nat → Nat) (x n : Nat), n < j → upd f j x n = f n := fun f x n hn => upd_other _ _ (by omega)
  have hb := hf.blocks
  have hsz := hm.size
  refine ⟨H1.lk_, H1.pr, H1.tb, H1.rn, H1.rs, H1.rm, H1.ar, H1.sp, H1.fg, fun n hn => ?_, ?_, fun q hq => ?_, ?_, fun n hn => ?_, ?_, h.pre, H1.sz, fun q hq => ?_, fun q hq q1 q2 => ?_, H1.md, h.gl0, h.gne, fun n hn => ?_⟩
  · by_cases e : n = j
    · subst e
      rw [upd_self, upd_self, upd_self]
      exact hf
    · rw [uf _ _ n (by omega), uf _ _ n (by omega), uf _ _ n (by omega)]
      exact H1.fl n (by omega)
  · rw [ndCells_same c σ0 (lf := lf) (fun n hn => uf _ _ n (by omega))]
    exact H1.nr
  · have hq2 := (Tp.own_block h.nr hq).2
    rw [up q hq2]
    refine ⟨(h.cv q hq).1, fun n hn => ?_⟩
    by_cases e : n = j
    · subst e
      rw [upd_self, upd_self, upd_self]
      omega
    · rw [uf _ _ n (by omega), uf _ _ n (by omega), uf _ _ n (by omega)]
      exact (h.cv q hq).2 n (by omega)
  · rw [up _ (by omega), up _ (by omega), up _ (by omega), up _ (by omega), up _ (by omega), up _ (by omega), up _ (by omega), up _ (by omega)]
    exact h.c0
  · by_cases e : n = j
    · subst e
      have e1 := hf.n3
      have e2 := hf.at_.facts.2.2.2.2.2.2.1
      rw [upd_self, upd_self, upd_self, upd_self, upd_other _ _ e1, upd_other _ _ e2]
      exact ⟨h.fresh _ g1, h.fresh _ g2, rfl⟩
    · have hn' : n < j := by omega
      have hb := (h.fl n hn').blocks
      rw [uf _ _ n hn', uf _ _ n hn', uf _ _ n hn', up _ (by omega), up _ (by omega), up _ (by omega)]
      exact h.cl n hn'
  · rw [up _ (by omega), up _ (by omega), up _ (by omega), up _ (by omega)]
    exact h.ch
  · rw [upd_other _ _ (by omega)]
    exact h.fresh q (by omega)
  · rw [up q (by omega)]
    exact h.old q hq q1 q2
  · by_cases e : n = j
    · subst e
      rw [upd_self, upd_self, upd_self]
      omega
    · rw [uf _ _ n (by omega), uf _ _ n (by omega), uf _ _ n (by omega)]
      exact h.lo n (by omega)
theorem NwW.app (hkj : k < j) {v' : Value} (hown : W'.ownsRow B0 73 2 v' (k + 1) (ndCells c σ0 lf k ++ [.pointer (some ⟨lf k, 0, none⟩), .int .i64 ((c.pm σ0).cw k)])) (hg : W.grownBy W' v.ownBlock) (hn : ∀ q, v'.ownBlock = some q → v.ownBlock = some q ∨ W.heap.size ≤ q) :
    NwW w B0 b c σ0 ms j (k + 1) σ lf lk lh col v' (W'.setCell ⟨b.gl, 7, none⟩ v') ∧ W'.cell? ⟨b.gl, 7, none⟩ = some v ∧ W'.frozen? ⟨b.gl, 7, none⟩ = false := by
  obtain ⟨⟨⟨p1, p2, p3, p4⟩, p5, p6, p7, p8⟩, p9, p10, p11, p12⟩ := h.pre
  obtain ⟨z1, z2⟩ := h.sz
  have hm := Tp.grown_mod hg
  have hS : ∀ x ∈ v.ownBlock.toList, v.ownBlock = some x := by simp
  have hno : ∀ q, q < B0 → q ∉ v.ownBlock.toList := fun q hq hx => by have := (Tp.own_block h.nr (hS q hx)).1; omega
  have hsz := hm.size
  have hlk := hm.blk h.lk_ (hno _ p1)
  have hm2 : Mod [b.gl] W' (W'.setCell ⟨b.gl, 7, none⟩ v') := (Mod.refl _ _).setCell (by simp) _
  have hsz2 := hm2.size
  have nl : ∀ q, q ≠ b.gl → q ∉ [b.gl] := fun q hq hx => hq (by simpa using hx)
  have cl0 := h.c0.1.1
  have nc : ∀ q, col q ≠ 0 → q ≠ b.gl := fun q hq e => by rw [e] at hq; exact hq cl0
  obtain ⟨h1, h2, h3, h4⟩ := h.ch
  have cell2 : ∀ (q i : Nat), q < B0 → q ≠ b.gl → (W'.setCell ⟨b.gl, 7, none⟩ v').cell? ⟨q, i, none⟩ = W.cell? ⟨q, i, none⟩ := fun q i hq hne =>
    (Pa.cell_mod hm2 (p := ⟨q, i, none⟩) (by show q < _; omega) (nl _ hne)).trans (Pa.cell_mod hm (p := ⟨q, i, none⟩) (by show q < _; omega) (hno _ hq))
  obtain ⟨⟨n1, n2, n3, n4⟩, n5, n6, n7⟩ := h.gne
  have two : ∀ {T : TypeId} {q : Nat} {cs : Array Value}, W.heap[q]? = some (.cells cs T (0, 0)) → q < B0 → q ≠ b.gl → (W'.setCell ⟨b.gl, 7, none⟩ v').heap[q]? = some (.cells cs T (0, 0)) := fun a1 a2 a3 => hm2.blk (hm.blk a1 (hno _ a2)) (nl _ a3)
  have hvl : ∀ n, n < j → lf n ∉ v.ownBlock.toList ∧ lk n ∉ v.ownBlock.toList ∧ lh n ∉ v.ownBlock.toList := fun n hn =>
    ⟨fun hx => ((h.cv _ (hS _ hx)).2 n hn).1 rfl, fun hx => ((h.cv _ (hS _ hx)).2 n hn).2.1 rfl, fun hx => ((h.cv _ (hS _ hx)).2 n hn).2.2 rfl⟩
  have hcol' : ∀ q, v'.ownBlock = some q → col q = 0 ∧ ∀ n, n < j → q ≠ lf n ∧ q ≠ lk n ∧ q ≠ lh n := fun q hq => by
    rcases hn q hq with h9 | h9
    · exact h.cv q h9
    · refine ⟨h.fresh q h9, fun n hn => ?_⟩
      have hb := (h.fl n hn).blocks
      omega
  have hgl7 := blk_cell hlk 7 (by simp [nwCells])
  have hfz := blk_free hlk 7
  refine ⟨⟨?_, two h.pr p8 (fun e => n7 e.symm), two h.tb p2 (fun e => n1 e.symm), fun k hk => (cell2 _ _ p3 (fun e => n2 e.symm)).trans (h.rn k hk), fun k hk => (cell2 _ _ p4 (fun e => n3 e.symm)).trans (h.rs k hk), fun k hk => (cell2 _ _ p5 (fun e => n4 e.symm)).trans (h.rm k hk),
    (h.ar.mod hm (hno _ p9) (hno _ p10)).mod hm2 (nl _ (nc _ (by omega))) (nl _ (nc _ (by omega))), (h.sp.mod hm (hno _ p11)).mod hm2 (nl _ (nc _ (by omega))),
    (h.fg.mod hm (hno _ p6) (hno _ p7) (hno _ p9) (hno _ p10) (hno _ p12)).mod hm2 (nl _ (fun e => n5 e.symm)) (nl _ (fun e => n6 e.symm)) (nl _ (nc _ (by omega))) (nl _ (nc _ (by omega))) (nl _ (nc _ (by omega))), fun n hn => ?_, ?_, hcol', h.c0, h.cl, h.ch, h.pre, ⟨z1, by omega⟩, fun q hq => h.fresh q (by omega), h.old, ?_, h.gl0, h.gne, h.lo⟩, hgl7, hfz⟩
  · have := blk_set hlk 7 v'
    simpa [nwCells] using this
  · obtain ⟨y1, y2, y3⟩ := hvl n hn
    obtain ⟨x1, x2, x3⟩ := h.lo n hn
    exact ((h.fl n hn).mod hm y1 y2 (hno _ p9) (hno _ p10) y3).mod hm2 (nl _ (by omega)) (nl _ (by omega)) (nl _ (nc _ (by omega))) (nl _ (nc _ (by omega))) (nl _ (by omega))
  · rw [ndCells_succ]
    exact Tp.own_apart hown hm2 (fun q hq => nl _ (by have := (Tp.own_block hown hq).1; omega))
  · exact (h.md.of_grown hg (fun q hq => .inl (by have := (Tp.own_block h.nr hq).1; omega))).setNew (p := ⟨b.gl, 7, none⟩) h.gl0 _
end
end Go.Proofs.YtfnmggmgdmokcaaGreatDoor.Cm

/- Package cohort: New: where its loop begins, and where it ends. -/
namespace Go.Proofs.YtfnmggmgdmokcaaGreatDoor.Cm
open Go.RowKit Go.Proofs.YtfnmggmgdmokcaaGreatDoor.Ara Go.Proofs.YtfnmggmgdmokcaaGreatDoor.Lok Go.Proofs.YtfnmggmgdmokcaaGreatDoor.Fl Go.Proofs.YtfnmggmgdmokcaaGreatDoor.Co

def col0 (b : Bl) (q : Nat) : Nat := if q = b.ga then 1 else if q = b.ha then 2 else if q = b.hs then 3 else if q = b.gh then 4 else 0
theorem col0_no {b : Bl} {q : Nat} (h1 : q ≠ b.ga) (h2 : q ≠ b.ha) (h3 : q ≠ b.hs) (h4 : q ≠ b.gh) : col0 b q = 0 := by
  unfold col0
  rw [if_neg h1, if_neg h2, if_neg h3, if_neg h4]
structure Ord (w : World) (b : Bl) (M : Nat) (W : World) : Prop where
  a : b.ga < w.heap.size ∧ b.ha < w.heap.size ∧ b.ga ≠ b.ha
  o : w.heap.size ≤ b.gp ∧ b.gp < b.gt ∧ b.gt < b.hs ∧ b.hs < b.gl
  r : (b.gl < b.gn ∧ b.gl < b.gs ∧ b.gl < b.gm) ∧ (b.gn < M ∧ b.gs < M ∧ b.gm < M)
  f : (M ≤ b.gf ∧ M ≤ b.gk ∧ M ≤ b.gh) ∧ (b.gf < W.heap.size ∧ b.gk < W.heap.size ∧ b.gh < W.heap.size) ∧ b.gf ≠ b.gh ∧ b.gk ≠ b.gh
theorem nw_start {w : World} {b : Bl} {c : Nw} {σ0 : Ar} {ms : List Int} {M : Nat} {W : World} (o : Ord w b M W)
    (hlk : W.heap[b.gl]? = some (.cells (nwCells b c (.pointer none) (.slice none 0 0)) 67 (0, 0)))
    (hpr : W.heap[b.gp]? = some (.cells #[.int .i64 c.kg, .int .i64 c.kl, .int .i64 c.par, .int .i64 c.B] 23 (0, 0)))
    (htb : Pa.TbB W b.gt (.slice b.tA b.lA b.tc) (.slice b.tB c.T b.td) 1 0 b.vu (.slice (some ⟨b.gn, 0, none⟩) c.T b.cn) (.slice (some ⟨b.gs, 0, none⟩) c.T b.cs) (.slice (some ⟨b.gm, 0, none⟩) c.NN c.NN))
    (hrn : ∀ k, k < c.T → W.cell? ⟨b.gn, k, none⟩ = some (.int .i64 (c.nd k : Int))) (hrs : ∀ k, k < c.T → W.cell? ⟨b.gs, k, none⟩ = some (.int .i64 (c.sl k : Int))) (hrm : ∀ n, n < c.NN → W.cell? ⟨b.gm, n, none⟩ = some (.int .i64 (ms.getD n 0)))
    (hsp : SpAt W b.hs (List.replicate c.T sp0)) (hfg : FLAt W b.gf b.gk b.ga b.ha b.gh (c.pm σ0).pg (tak c.kg c.NN c.par σ0).1 (tak c.kg c.NN c.par σ0).2) (hmd : Mod [b.ga, b.ha] w W) (l0 : Nat → Nat) :
    NwW w W.heap.size b c σ0 ms 0 0 (c.σN σ0 0) l0 l0 l0 (col0 b) (.slice none 0 0) (W.setCell ⟨b.gl, 6, none⟩ (.pointer (some ⟨b.gf, 0, none⟩))) := by
  obtain ⟨a1, a2, a3⟩ := o.a
  obtain ⟨o1, o2, o3, o4⟩ := o.o
  obtain ⟨⟨r1, r2, r3⟩, r4, r5, r6⟩ := o.r
  obtain ⟨⟨f1, f2, f3⟩, ⟨f4, f5, f6⟩, f7, f8⟩ := o.f
  have hm : Mod [b.gl] W (W.setCell ⟨b.gl, 6, none⟩ (.pointer (some ⟨b.gf, 0, none⟩))) := (Mod.refl _ _).setCell (by simp) _
  have hsz : (W.setCell ⟨b.gl, 6, none⟩ (.pointer (some ⟨b.gf, 0, none⟩))).heap.size = W.heap.size := by simp [World.setCell]
  have ne : ∀ q, q ≠ b.gl → q ∉ [b.gl] := fun q hq hx => hq (by simpa using hx)
  refine ⟨?_, hm.blk hpr (ne _ (by omega)), htb.mod hm (ne _ (by omega)), fun k hk => (Pa.cell_mod hm (p := ⟨b.gn, k, none⟩) (by show b.gn < _; omega) (ne _ (by show b.gn ≠ _; omega))).trans (hrn k hk), fun k hk => (Pa.cell_mod hm (p := ⟨b.gs, k, none⟩) (by show b.gs < _; omega) (ne _ (by show b.gs ≠ _; omega))).trans (hrs k hk),
    fun k hk => (Pa.cell_mod hm (p := ⟨b.gm, k, none⟩) (by show b.gm < _; omega) (ne _ (by show b.gm ≠ _; omega))).trans (hrm k hk), hfg.at_.facts.1.mod hm (ne _ (by omega)) (ne _ (by omega)), hsp.mod hm (ne _ (by omega)), hfg.mod hm (ne _ (by omega)) (ne _ (by omega)) (ne _ (by omega)) (ne _ (by omega)) (ne _ (by omega)), fun n hn => absurd hn (Nat.not_lt_zero n), World.ownsRow_nil _ _ _ _, fun q hq => (by cases hq),
    ⟨⟨col0_no (by omega) (by omega) (by omega) (by omega), col0_no (by omega) (by omega) (by omega) (by omega), col0_no (by omega) (by omega) (by omega) (by omega), col0_no (by omega) (by omega) (by omega) (by omega)⟩, col0_no (by omega) (by omega) (by omega) (by omega), col0_no (by omega) (by omega) (by omega) (by omega), col0_no (by omega) (by omega) (by omega) (by omega), col0_no (by omega) (by omega) (by omega) (by omega)⟩,
    fun n hn => absurd hn (Nat.not_lt_zero n), ⟨?_, ?_, ?_, ?_⟩, ⟨⟨⟨by omega, by omega, by omega, by omega⟩, by omega, by omega, by omega, by omega⟩, by omega, by omega, by omega, by omega⟩, ⟨hmd.size, by rw [hsz]; exact Nat.le_refl _⟩, fun q hq => ?_, fun q hq q1 q2 => col0_no q1 q2 (by omega) (by omega), ?_, by omega, ⟨⟨by omega, by omega, by omega, by omega⟩, by omega, by omega, by omega⟩, fun n hn => absurd hn (Nat.not_lt_zero n)⟩
  · have := blk_set hlk 6 (.pointer (some ⟨b.gf, 0, none⟩))
    simpa [nwCells] using this
  · unfold col0; rw [if_pos rfl]
  · unfold col0; rw [if_neg (by omega), if_pos rfl]
  · unfold col0; rw [if_neg (by omega), if_neg (by omega), if_pos rfl]
  · unfold col0; rw [if_neg (by omega), if_neg (by omega), if_neg (by omega), if_pos rfl]
  · rw [hsz] at hq
    exact col0_no (by omega) (by omega) (by omega) (by omega)
  · exact hmd.setNew (p := ⟨b.gl, 6, none⟩) (by show w.heap.size ≤ b.gl; omega) _
theorem NwW.co {w : World} {B0 : Nat} {b : Bl} {c : Nw} {σ0 : Ar} {ms : List Int} {lf lk lh col : Nat → Nat} {v : Value} {W : World} (h : NwW w B0 b c σ0 ms c.NN c.NN (c.σN σ0 c.NN) lf lk lh col v W) (hN : 1 ≤ c.NN) (lw : (w.heap.size ≤ b.gt ∧ w.heap.size ≤ b.gn ∧ w.heap.size ≤ b.gs ∧ w.heap.size ≤ b.hs) ∧ w.heap.size ≤ b.gf ∧ w.heap.size ≤ b.gk ∧ w.heap.size ≤ b.gh) :
    ∃ cd : Cd, (cd.gl = b.gl ∧ cd.ga = b.ga ∧ cd.ha = b.ha ∧ cd.col = col) ∧ CoAt W cd (c.pm σ0) (c.st σ0) ∧ Lw cd c.NN w.heap.size := by
  obtain ⟨⟨⟨p1, p2, p3, p4⟩, p5, p6, p7, p8⟩, p9, p10, p11, p12⟩ := h.pre
  obtain ⟨z1, z2⟩ := h.sz
  rcases h.nr.2 with ⟨_, h0⟩ | ⟨g, cap, cur, rfl, hg, hbk, rest⟩
  · omega
  have hcell := World.ownsRow.cells h.nr (g := g) rfl
  have hcv := h.cv g rfl
  refine ⟨⟨b.gl, b.gt, b.gn, b.gs, g, b.hs, b.ga, b.ha, b.gf, b.gk, b.gh, lf, lk, lh, c.kg, c.kl, c.par, b.tB, b.td, b.cn, b.cs, cap, col⟩, ⟨rfl, rfl, rfl, rfl⟩, ⟨?_, ⟨h.ar, h.sp, h.fg, h.fl⟩, List.length_replicate⟩, ⟨⟨⟨h.gl0, lw.1.1, lw.1.2.1, lw.1.2.2.1⟩, Nat.le_trans z1 hg, lw.1.2.2.2, lw.2⟩, fun n hn => by
    have := h.lo n hn
    show w.heap.size ≤ lf n ∧ w.heap.size ≤ lk n ∧ w.heap.size ≤ lh n
    omega⟩⟩
  obtain ⟨⟨a1, a2, a3, a4⟩, a5, a6, a7, a8⟩ := h.c0
  obtain ⟨-, t1, t2, -, -, t6, t7, -, -⟩ := h.tb.cells
  have hlt := lt_of_blk hbk
  refine ⟨h.lk_, t1, t2, t6, t7, h.rn, h.rs, fun n hn => ?_, ⟨a1, a2, a3, a4, hcv.1, a6, a7⟩, h.cl, h.ch, ⟨by show b.gt < _; omega, by show b.gn < _; omega, by show b.gs < _; omega, hlt, by show b.ha < _; omega⟩, h.fresh⟩
  have hr : (List.range c.NN)[n]? = some n := List.getElem?_range hn
  have e := fun (j : Nat) (hj : j < 2) => flat_get (dec := fun n => [.pointer (some ⟨lf n, 0, none⟩), .int .i64 ((c.pm σ0).cw n)]) (k := 2) (fun _ => rfl) (List.range c.NN) n j hj n hr
  have ad : ∀ i, (⟨g, 0, none⟩ : Addr).add i = ⟨g, i, none⟩ := fun i => by unfold Addr.add; split <;> simp_all
  have e0 := hcell (n * 2 + 0) _ (e 0 (by omega))
  have e1 := hcell (n * 2 + 1) _ (e 1 (by omega))
  rw [ad] at e0 e1
  exact ⟨e0, e1⟩
end Go.Proofs.YtfnmggmgdmokcaaGreatDoor.Cm

