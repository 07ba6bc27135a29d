/- Merged texts: Ata, Keep, Spot, LokP, LokR, LokW, Ta1, Ta2. -/
import Derived.Test.YtfnmggmgdmokcaaGreatCt5
import Derived.Maps.AppendAt
import Derived.Deep.RegionHeld3
set_option linter.unusedVariables false
/- An arena that a law has made. -/
namespace Go.Proofs.YtfnmggmgdmokcaaGreat.Ara
open Go.RowKit

theorem ArAt.upd {B : Nat} {S : List Nat} {w w' : World} {g h : Nat} {σ : Ar} (k : ArAt w g h σ) (hm : Upd B S w w') (hgB : g < B) (hhB : h < B) (hg : g ∉ S) (hh : h ∉ S) : ArAt w' g h σ := by
  obtain ⟨h1, h2, A, c, h3, h4⟩ := k
  refine ⟨h1, h2, A, c, hm.blk h3 hgB hg, ?_⟩
  rcases h4 with h4 | ⟨a, b, c⟩
  · exact .inl h4
  · exact .inr ⟨a, b, hm.blk c hhB hh⟩

def AtA (B : Nat) (W0 W : World) (σ : Ar) : Prop := ArAt W (B + 1) B σ ∧ B + 1 + 1 ≤ W.heap.size ∧ Below B W0 W
theorem AtA.base {B : Nat} {W0 W W' : World} {σ : Ar} (h : AtA B W0 W σ) (hb : Below (B + 1 + 1) W W') : AtA B W0 W' σ :=
  ⟨h.1.upd (S := []) (Upd.of_below hb) (by omega) (by omega) (by simp) (by simp), Nat.le_trans h.2.1 hb.size, h.2.2.trans (hb.mono (by omega))⟩
theorem AtA.same {B : Nat} {W0 W W' : World} {σ : Ar} (h : AtA B W0 W σ) (hb : Below W.heap.size W W') : AtA B W0 W' σ := h.base (hb.mono h.2.1)
theorem AtA.mod {B : Nat} {W0 W W' : World} {σ σ' : Ar} (h : AtA B W0 W σ) (hi : ArAt W' (B + 1) B σ') (hm : Mod [B + 1, B] W W') : AtA B W0 W' σ' :=
  ⟨hi, Nat.le_trans h.2.1 hm.size, hm.below_of h.2.2 (by have := h.2.1; omega) (by simp)⟩
section
variable (B : Nat) (W0 W : World) (σ σ' : Ar) (H : AtA B W0 W σ)
include H
end
end Go.Proofs.YtfnmggmgdmokcaaGreat.Ara

/- A cell that a call keeps. -/
namespace Go.Proofs.YtfnmggmgdmokcaaGreat
open Go.RowKit

theorem keep1 {W W' : World} {p : Addr} {v : Value} (hb : Below W.heap.size W W') (h : W.cell? p = some v) : W'.cell? p = some v := (hb.cell (World.block_lt_of_cell? _ _ h)).trans h
theorem keepM {S : List Nat} {W W' : World} {p : Addr} {v : Value} (hm : Mod S W W') (h : W.cell? p = some v) (hn : p.block ∉ S) : W'.cell? p = some v := by
  have hb := hm.block p.block (World.block_lt_of_cell? _ _ h) hn
  simpa [World.cell?, hb] using h
end Go.Proofs.YtfnmggmgdmokcaaGreat

/- Spots of slots: as Lean has them, and in memory. -/
namespace Go.Proofs.YtfnmggmgdmokcaaGreat.Lok
open Go.RowKit Go.Proofs.YtfnmggmgdmokcaaGreat.Ara

structure Sp where
  pc : Int
  a : Int
  b : Int
  c : Int
  deriving DecidableEq
def decSp (s : Sp) : List Value := [.int .i64 s.pc, .int .i64 s.a, .int .i64 s.b, .int .i64 s.c]
def sp0 : Sp := ⟨0, 0, 0, 0⟩
theorem flat_set {α : Type} {dec : α → List Value} {k : Nat} (hdk : ∀ a, (dec a).length = k) (l : List α) (i j : Nat) (hj : j < k) (a a' : α) (ha : l[i]? = some a) (v : Value) (hv : dec a' = (dec a).set j v) :
    (l.flatMap dec).set (i * k + j) v = (l.set i a').flatMap dec := by
  induction l generalizing i with
  | nil => simp at ha
  | cons y l ih =>
    cases i with
    | zero =>
      obtain rfl : y = a := by simpa using ha
      rw [List.flatMap_cons, List.set_cons_zero, List.flatMap_cons, hv, Nat.zero_mul, Nat.zero_add, List.set_append_left _ _ (by rw [hdk]; exact hj)]
    | succ i =>
      rw [List.flatMap_cons, List.set_cons_succ, List.flatMap_cons, ← ih i (by simpa using ha), List.set_append_right _ _ (by rw [hdk, Nat.add_mul]; omega), hdk, show (i + 1) * k + j - k = i * k + j by rw [Nat.add_mul]; omega]
def SpAt (W : World) (h : Nat) (sp : List Sp) : Prop :=
  ∃ cur : Array Value, W.heap[h]? = some (.cells cur 40 (0, 0)) ∧ cur.toList.take (sp.length * 4) = sp.flatMap decSp
theorem SpAt.lt {W : World} {h : Nat} {sp : List Sp} (k : SpAt W h sp) : h < W.heap.size := by
  obtain ⟨cur, h1, _⟩ := k
  exact lt_of_blk h1
theorem SpAt.of_blk {W W' : World} {h : Nat} {sp : List Sp} (k : SpAt W h sp) (e : W'.heap[h]? = W.heap[h]?) : SpAt W' h sp := by
  obtain ⟨cur, h1, h2⟩ := k
  exact ⟨cur, e.trans h1, h2⟩
theorem SpAt.mod {S : List Nat} {W W' : World} {h : Nat} {sp : List Sp} (k : SpAt W h sp) (hm : Mod S W W') (hh : h ∉ S) : SpAt W' h sp := k.of_blk (hm.block h k.lt hh)
theorem decSp_len (s : Sp) : (decSp s).length = 4 := rfl
theorem SpAt.cell {W : World} {h : Nat} {sp : List Sp} (k : SpAt W h sp) (i : Nat) (hi : i < sp.length) (j : Nat) (hj : j < 4) : W.cell? ⟨h, i * 4 + j, none⟩ = (decSp sp[i])[j]? := by
  obtain ⟨cur, h1, h2⟩ := k
  have h3 := flat_get decSp_len sp i j hj sp[i] (List.getElem?_eq_getElem hi)
  rw [← h2, List.getElem?_take_of_lt (by omega)] at h3
  have hl : i * 4 + j < cur.toList.length := by
    have := congrArg List.length h2
    rw [List.length_take, flat_len decSp_len] at this
    omega
  rw [← h3, blk_cell h1 (i * 4 + j) (by simpa using hl)]
  simp at hl
  simp [hl]
theorem SpAt.cells {W : World} {h : Nat} {sp : List Sp} (k : SpAt W h sp) (i : Nat) (hi : i < sp.length) :
    W.cell? ⟨h, i * 4, none⟩ = some (.int .i64 sp[i].pc) ∧ W.cell? ⟨h, i * 4 + 1, none⟩ = some (.int .i64 sp[i].a) ∧ W.cell? ⟨h, i * 4 + 2, none⟩ = some (.int .i64 sp[i].b) ∧ W.cell? ⟨h, i * 4 + 3, none⟩ = some (.int .i64 sp[i].c) ∧ ∀ j, W.frozen? ⟨h, j, none⟩ = false := by
  refine ⟨k.cell i hi 0 (by omega), k.cell i hi 1 (by omega), k.cell i hi 2 (by omega), k.cell i hi 3 (by omega), fun j => ?_⟩
  obtain ⟨cur, h1, _⟩ := k
  exact blk_free h1 j
theorem SpAt.set {W : World} {h : Nat} {sp : List Sp} (k : SpAt W h sp) (i : Nat) (hi : i < sp.length) (j : Nat) (hj : j < 4) (v : Value) (s' : Sp) (hv : decSp s' = (decSp sp[i]).set j v) : SpAt (W.setCell ⟨h, i * 4 + j, none⟩ v) h (sp.set i s') := by
  obtain ⟨cur, h1, h2⟩ := k
  refine ⟨cur.setIfInBounds (i * 4 + j) v, blk_set h1 _ _, ?_⟩
  rw [← flat_set decSp_len sp i j hj sp[i] s' (List.getElem?_eq_getElem hi) v hv, ← h2, List.length_set, Array.toList_setIfInBounds, List.take_set]
theorem SpAt.setPc {W : World} {h : Nat} {sp : List Sp} (k : SpAt W h sp) (i : Nat) (hi : i < sp.length) (x : Int) : SpAt (W.setCell ⟨h, i * 4, none⟩ (.int .i64 x)) h (sp.set i { sp[i] with pc := x }) := k.set i hi 0 (by omega) _ _ rfl
theorem SpAt.setA {W : World} {h : Nat} {sp : List Sp} (k : SpAt W h sp) (i : Nat) (hi : i < sp.length) (x : Int) : SpAt (W.setCell ⟨h, i * 4 + 1, none⟩ (.int .i64 x)) h (sp.set i { sp[i] with a := x }) := k.set i hi 1 (by omega) _ _ rfl
theorem SpAt.setB {W : World} {h : Nat} {sp : List Sp} (k : SpAt W h sp) (i : Nat) (hi : i < sp.length) (x : Int) : SpAt (W.setCell ⟨h, i * 4 + 2, none⟩ (.int .i64 x)) h (sp.set i { sp[i] with b := x }) := k.set i hi 2 (by omega) _ _ rfl

def spOf (sp : List Sp) (i : Int) : Sp := if 0 ≤ i ∧ i < sp.length then sp.getD i.toNat sp0 else sp0
theorem spOf_in {sp : List Sp} {k : Nat} (h : k < sp.length) : spOf sp (k : Int) = sp[k] := by
  unfold spOf
  rw [if_pos (by omega), Int.toNat_natCast]
  simp [h]
theorem spOf_out {sp : List Sp} {i : Int} (h : i < 0 ∨ (sp.length : Int) ≤ i) : spOf sp i = sp0 := by
  unfold spOf
  rw [if_neg (by omega)]
def turnB (sp : List Sp) (i fr : Int) : Bool := decide (0 ≤ i) && decide (i < sp.length) && ((spOf sp i).pc == fr)
def turnS (sp : List Sp) (i fr tO : Int) : List Sp := if turnB sp i fr then sp.set i.toNat { spOf sp i with pc := tO } else sp
theorem turn_out {sp : List Sp} {i : Int} (h : i < 0 ∨ (sp.length : Int) ≤ i) (fr : Int) : turnB sp i fr = false := by
  unfold turnB
  rcases h with h | h
  · rw [decide_eq_false (by omega), Bool.false_and, Bool.false_and]
  · rw [decide_eq_false (p := i < _) (by omega), Bool.and_false, Bool.false_and]
theorem turn_in {sp : List Sp} {k : Nat} (h : k < sp.length) (fr : Int) : turnB sp (k : Int) fr = (sp[k].pc == fr) := by
  unfold turnB
  rw [decide_eq_true (by omega), decide_eq_true (by omega), spOf_in h]
  rfl
theorem turnS_in {sp : List Sp} {k : Nat} (h : k < sp.length) (fr tO : Int) : turnS sp (k : Int) fr tO = if sp[k].pc = fr then sp.set k { sp[k] with pc := tO } else sp := by
  unfold turnS
  rw [turn_in h, spOf_in h, Int.toNat_natCast]
  simp only [beq_iff_eq]
theorem turnS_out {sp : List Sp} {i : Int} (h : i < 0 ∨ (sp.length : Int) ≤ i) (fr tO : Int) : turnS sp i fr tO = sp := by
  unfold turnS
  rw [turn_out h, if_neg (by decide)]
theorem turnS_len (sp : List Sp) (i fr tO : Int) : (turnS sp i fr tO).length = sp.length := by
  unfold turnS
  split
  · rw [List.length_set]
  · rfl
end Go.Proofs.YtfnmggmgdmokcaaGreat.Lok

/- Ops and spots as Lean has them: what an op leaves of each word; what a turn leaves of each spot; counts of spots. -/
namespace Go.Proofs.YtfnmggmgdmokcaaGreat.Lok
open Go.RowKit Go.Proofs.YtfnmggmgdmokcaaGreat.Ara

theorem op_has (σ : Ar) (kd p v : Int) (wr : Bool) (q : Int) : (σ.op kd p wr v).has q = σ.has q := by
  unfold Ar.op Ar.has
  split <;> rfl
theorem op_t (σ : Ar) (kd p v : Int) (wr : Bool) : (σ.op kd p wr v).t = σ.t := by
  unfold Ar.op
  split <;> rfl
theorem op_len (σ : Ar) (kd p v : Int) (wr : Bool) : (σ.op kd p wr v).ws.length = σ.ws.length := by
  unfold Ar.op
  split
  · cases wr
    · rfl
    · exact List.length_set
  · rfl
theorem op_ops (σ : Ar) (kd p v : Int) (wr : Bool) : (σ.op kd p wr v).ops = σ.ops + if σ.has p then 1 else 0 := by
  unfold Ar.op
  split <;> rfl
theorem get_op (σ : Ar) (hl : σ.t ≤ σ.ws.length) (kd p v : Int) (wr : Bool) (q : Int) : (σ.op kd p wr v).get q = if σ.has p = true ∧ wr = true ∧ q = p then v else σ.get q := by
  unfold Ar.get
  rw [op_has]
  unfold Ar.op
  by_cases hp : σ.has p = true
  · rw [if_pos hp]
    cases wr
    · simp [Ar.did]
    · by_cases hq : q = p
      · subst hq
        have h2 := hp
        simp [Ar.has] at h2
        simp only [hp, if_true, Ar.did, and_self]
        simp only [List.getD_eq_getElem?_getD]
        rw [List.getElem?_set_self (by omega)]
        rfl
      · simp only [hq, and_false, if_false, Ar.did, if_true]
        by_cases hh : σ.has q = true
        · simp only [hh, if_true]
          simp [Ar.has] at hh hp
          simp only [List.getD_eq_getElem?_getD]
          rw [List.getElem?_set_ne (by omega)]
        · simp only [hh]
          simp
  · rw [if_neg hp]
    simp [hp]
theorem get_read (σ : Ar) (hl : σ.t ≤ σ.ws.length) (kd p v : Int) (q : Int) : (σ.op kd p false v).get q = σ.get q := by
  rw [get_op σ hl]
  simp

theorem spOf_set {sp : List Sp} {i : Int} (h0 : 0 ≤ i) (h1 : i < sp.length) (s' : Sp) (j : Int) : spOf (sp.set i.toNat s') j = if j = i then s' else spOf sp j := by
  unfold spOf
  rw [List.length_set]
  by_cases hj : 0 ≤ j ∧ j < sp.length
  · rw [if_pos hj, if_pos hj]
    simp only [List.getD_eq_getElem?_getD]
    by_cases e : j = i
    · subst e
      rw [if_pos rfl, List.getElem?_set_self (by omega)]
      rfl
    · rw [if_neg e, List.getElem?_set_ne (by omega)]
  · rw [if_neg hj, if_neg hj, if_neg (by omega)]
theorem spOf_range {sp : List Sp} {i : Int} (h : (spOf sp i).pc ≠ 0) : 0 ≤ i ∧ i < sp.length := by
  by_cases hi : 0 ≤ i ∧ i < sp.length
  · exact hi
  · exfalso
    apply h
    rw [spOf_out (by omega)]
    rfl
theorem turn_true {sp : List Sp} {i fr : Int} (h : turnB sp i fr = true) : (0 ≤ i ∧ i < sp.length) ∧ (spOf sp i).pc = fr := by
  simp [turnB] at h
  omega
theorem spOf_turn {sp : List Sp} {i fr : Int} (tO : Int) (h : turnB sp i fr = true) (j : Int) : spOf (turnS sp i fr tO) j = if j = i then { spOf sp i with pc := tO } else spOf sp j := by
  unfold turnS
  rw [if_pos h]
  obtain ⟨⟨h0, h1⟩, _⟩ := turn_true h
  exact spOf_set h0 h1 _ j
theorem turn_no {sp : List Sp} {i fr : Int} (tO : Int) (h : turnB sp i fr = false) : turnS sp i fr tO = sp := by
  unfold turnS
  rw [if_neg (by simp [h])]

def cnt (f : Sp → Bool) (sp : List Sp) : Nat → Nat
  | 0 => 0
  | k + 1 => cnt f sp k + if f (spOf sp (k : Int)) then 1 else 0
theorem cnt_le (f : Sp → Bool) (sp : List Sp) (n : Nat) : cnt f sp n ≤ n := by
  induction n with
  | zero => exact Nat.le_refl _
  | succ n ih => unfold cnt; split <;> omega
theorem cnt_one (f : Sp → Bool) (sp : List Sp) (h : ∀ i j, f (spOf sp i) = true → f (spOf sp j) = true → i = j) (n : Nat) : cnt f sp n ≤ 1 := by
  induction n with
  | zero => exact Nat.zero_le _
  | succ n ih =>
    unfold cnt
    split
    · rename_i hf
      have h0 : ∀ m, m ≤ n → cnt f sp m = 0 := by
        intro m
        induction m with
        | zero => intro _; rfl
        | succ m ihm =>
          intro hm
          unfold cnt
          rw [ihm (by omega)]
          split
          · rename_i hg
            have := h _ _ hf hg
            omega
          · rfl
      rw [h0 n (Nat.le_refl _)]
      exact Nat.le_refl _
    · omega
theorem cnt_some (f : Sp → Bool) (sp : List Sp) (i : Int) (hf : f (spOf sp i) = true) (h0 : 0 ≤ i) (n : Nat) (hn : i < n) : 0 < cnt f sp n := by
  induction n with
  | zero => omega
  | succ n ih =>
    unfold cnt
    by_cases e : i = n
    · subst e
      rw [if_pos hf]
      omega
    · have := ih (by omega)
      omega
end Go.Proofs.YtfnmggmgdmokcaaGreat.Lok

/- Rounds: if all step in turn, and leave at once, all come tO rest. -/
namespace Go.Proofs.YtfnmggmgdmokcaaGreat.Lok
open Go.RowKit Go.Proofs.YtfnmggmgdmokcaaGreat.Ara

structure Ac where
  kind : Int
  i : Int
def decAc (x : Ac) : List Value := [.int .i64 x.kind, .int .i64 x.i]
def round {X : Type} (f : X → Ac → X) (x : X) : Nat → X
  | 0 => x
  | k + 1 => f (f (round f x k) ⟨0, k⟩) ⟨2, k⟩
structure Rnd {X C : Type} (f : X → Ac → X) (core : X → C) (wt : C → Nat) (Good : X → Prop) (Ready : C → Nat → Prop) (n : Nat) : Prop where
  g : ∀ x c, Good x → Good (f x c)
  d : ∀ x (i : Nat) (k : Int), k = 0 ∨ k = 2 → Good x → wt (core (f x ⟨k, i⟩)) < wt (core x) ∨ core (f x ⟨k, i⟩) = core x
  ex : ∀ x, Good x → 0 < wt (core x) → ∃ i, i < n ∧ Ready (core x) i
  go : ∀ x (i : Nat), Good x → Ready (core x) i → wt (core (f (f x ⟨0, i⟩) ⟨2, i⟩)) < wt (core x)
section
variable {X C : Type} {f : X → Ac → X} {core : X → C} {wt : C → Nat} {Good : X → Prop} {Ready : C → Nat → Prop} {n : Nat} (h : Rnd f core wt Good Ready n)
include h
end
end Go.Proofs.YtfnmggmgdmokcaaGreat.Lok

/- What the laws of locks ask of an arena and of spots beside the lock: Words, Same, spots compared; two rows of the call's own. -/
namespace Go.Proofs.YtfnmggmgdmokcaaGreat.Lok
open Go.RowKit Go.Proofs.YtfnmggmgdmokcaaGreat.Ara

def Rw (B : Nat) (W : World) (A : Option Addr) (c n : Nat) (l : List Int) : Prop := W.ownsRow B 3 1 (.slice A n c) n (l.map vI)
theorem Rw.mod {S : List Nat} {B : Nat} {W W' : World} {A : Option Addr} {c n : Nat} {l : List Int} (h : Rw B W A c n l) (hm : Mod S W W') (hS : ∀ k ∈ S, k < B) : Rw B W' A c n l := own_mod h hm hS
theorem Rw.same {B : Nat} {W W' : World} {A : Option Addr} {c n : Nat} {l : List Int} (h : Rw B W A c n l) (hb : Below W.heap.size W W') : Rw B W' A c n l := h.mod (S := []) (Mod.of_below hb) (by simp)
theorem Rw.sl {B : Nat} {W : World} {A : Option Addr} {c n : Nat} {l : List Int} (h : Rw B W A c n l) : Sl W W.heap.size A (l.flatMap decI) := by
  obtain ⟨A', c', h1, _, _, h2⟩ := own_slice h
  injection h1 with h1 _ _
  subst h1
  rw [flatI]
  exact h2
theorem wpList_append1_at {P : Program} {ops : Array Oper} {rest : List Oper} {o : Oper} {a : Act} {Q : Exit → Act → World → Prop} (s x : Operand) (t e : TypeId) (z : Value) (size bytes : Nat)
    (hgd : o.guard = none) (ho : o.op = .call { callee := .builtin .append, args := #[s, x], argTypes := #[t, t] }) (ht : P.underlying t = some (.slice e))
    (hinfo : (P.info? e).map (fun i => (i.zero, i.size, i.bytes)) = some (some z, size, bytes)) (hzs : z.cells.size = size) (hsz : 0 < size)
    (base : Nat) (w : World) (v : Value) (n : Nat) (xs : List Value) (news : Array Value) (e' : TypeId) (c g : Nat) (hown : w.ownsRow base e size v n xs) (hs : a.eval s = v) (hx : a.eval x = .slice (some ⟨g, 0, none⟩) 1 c) (hgs : w.heap.size = g)
    (hl : news.size = size) (h1 : ∀ u ∈ news.toList, u.oneCell' = true) (h63 : n + 1 ≤ maxLen) (hbytes : (n + 1) * bytes ≤ 140737488355328) (hbase : base ≤ w.heap.size)
    (h : ∀ v' w', Hid (w'.ownsRow base e size v' (n + 1) (xs ++ news.toList)) → Hid (w.grownBy w' v.ownBlock) → Hid (∀ b, v'.ownBlock = some b → v.ownBlock = some b ∨ w.heap.size ≤ b) → wpList P ops Q rest (a.put o.dst v') w') :
    wpList P ops Q (o :: rest) a (w.alloc (.cells news e')) := by
  subst hgs
  obtain ⟨i0, hi0, hz0, hz1, hz2⟩ := info_parts hinfo
  refine wpList_append_own_at _ hgd s x t ho base e i0 z size bytes ht hi0 hz0 hz1 hz2 hzs hsz v n xs hs (hown.alloc _) ⟨w.heap.size, 0, none⟩ 1 c news.toList hx (by simpa using hl) ?_ h1 h63 hbytes (by simp; omega) ?_
  · intro j u hu
    have hadd : (⟨w.heap.size, 0, none⟩ : Addr).add j = ⟨w.heap.size, j, none⟩ := by unfold Addr.add; split <;> simp_all
    rw [hadd, World.cell?_alloc_at _ _ _ _ rfl]
    simpa using hu
  · intro v' w' h2 h3 _ h4
    have hg := grown_trans (World.grownBy_alloc w (.cells news e') v.ownBlock) h3
    refine h v' w' h2 hg (fun b hb => ?_)
    rcases h4 with h4 | h4
    · left; rw [← h4]; exact hb
    · right
      rw [h4] at hb
      injection hb with hb
      rw [← hb]
      simp
end Go.Proofs.YtfnmggmgdmokcaaGreat.Lok

/- Package tas: slots, spots. -/
namespace Go.Proofs.YtfnmggmgdmokcaaGreat.Ta
open Go.RowKit Go.Proofs.YtfnmggmgdmokcaaGreat.Ara Go.Proofs.YtfnmggmgdmokcaaGreat.Lok

structure Par where
  word : Int
  most : Int
def LkAt (W : World) (gl ga ha hs : Nat) (P : Par) (σ : Ar) (sp : List Sp) : Prop :=
  ArAt W ga ha σ ∧ SpAt W hs sp ∧ sp.length ≤ 32 ∧ (∃ c : Nat, W.heap[gl]? = some (.cells #[.pointer (some ⟨ga, 0, none⟩), .int .i64 P.word, .int .i64 P.most, .slice (some ⟨hs, 0, none⟩) sp.length c] 141 (0, 0))) ∧ gl ≠ ga ∧ gl ≠ ha ∧ gl ≠ hs ∧ hs ≠ ga ∧ hs ≠ ha
theorem LkAt.mod {S : List Nat} {W W' : World} {gl ga ha hs : Nat} {P : Par} {σ : Ar} {sp : List Sp} (k : LkAt W gl ga ha hs P σ sp) (hm : Mod S W W') (h1 : gl ∉ S) (h2 : ga ∉ S) (h3 : ha ∉ S) (h4 : hs ∉ S) : LkAt W' gl ga ha hs P σ sp := by
  obtain ⟨k1, k2, k3, ⟨c, k4⟩, k5⟩ := k
  exact ⟨k1.mod hm h2 h3, k2.mod hm h4, k3, ⟨c, hm.blk k4 h1⟩, k5⟩
theorem LkAt.same {W W' : World} {gl ga ha hs : Nat} {P : Par} {σ : Ar} {sp : List Sp} (k : LkAt W gl ga ha hs P σ sp) (hb : Below W.heap.size W W') : LkAt W' gl ga ha hs P σ sp :=
  k.mod (S := []) (Mod.of_below hb) (by simp) (by simp) (by simp) (by simp)
theorem LkAt.drewN {W : World} {gl ga ha hs : Nat} {P : Par} {σ : Ar} {sp : List Sp} (k : LkAt W gl ga ha hs P σ sp) (n : Nat) : LkAt (W.drewN n) gl ga ha hs P σ sp := k
theorem LkAt.arena {W W' : World} {gl ga ha hs : Nat} {P : Par} {σ σ' : Ar} {sp : List Sp} (k : LkAt W gl ga ha hs P σ sp) (ha' : ArAt W' ga ha σ') (hm : Mod [ga, ha] W W') : LkAt W' gl ga ha hs P σ' sp := by
  obtain ⟨_, k2, k3, ⟨c, k4⟩, d1, d2, d3, d4, d5⟩ := k
  exact ⟨ha', k2.mod hm (by simp; omega), k3, ⟨c, hm.blk k4 (by simp; omega)⟩, d1, d2, d3, d4, d5⟩
theorem LkAt.spots {W W' : World} {gl ga ha hs : Nat} {P : Par} {σ : Ar} {sp sp' : List Sp} (k : LkAt W gl ga ha hs P σ sp) (hs' : SpAt W' hs sp') (hm : Mod [hs] W W') (hl : sp'.length = sp.length) : LkAt W' gl ga ha hs P σ sp' := by
  obtain ⟨k1, _, k3, ⟨c, k4⟩, d1, d2, d3, d4, d5⟩ := k
  refine ⟨k1.mod hm (by simp; omega) (by simp; omega), hs', by omega, ⟨c, ?_⟩, d1, d2, d3, d4, d5⟩
  have := hm.blk k4 (by simp; omega)
  rw [hl]
  exact this
theorem LkAt.heads {W : World} {gl ga ha hs : Nat} {P : Par} {σ : Ar} {sp : List Sp} (k : LkAt W gl ga ha hs P σ sp) : (∃ c : Nat, W.cell? ⟨gl, 0, none⟩ = some (.pointer (some ⟨ga, 0, none⟩)) ∧ W.cell? ⟨gl, 1, none⟩ = some (.int .i64 P.word) ∧ W.cell? ⟨gl, 2, none⟩ = some (.int .i64 P.most) ∧ W.cell? ⟨gl, 3, none⟩ = some (.slice (some ⟨hs, 0, none⟩) sp.length c)) ∧ sp.length ≤ 32 := by
  obtain ⟨_, _, k3, ⟨c, k4⟩, _⟩ := k
  exact ⟨⟨c, blk_cell k4 0 (by simp), blk_cell k4 1 (by simp), blk_cell k4 2 (by simp), blk_cell k4 3 (by simp)⟩, k3⟩
section
variable (gl ga ha hs : Nat) (P : Par) (σ : Ar) (sp : List Sp) (w : World) (H : LkAt w gl ga ha hs P σ sp)
include H
theorem slots_lk : Calls Tryz.prog 139 #[.pointer (some ⟨gl, 0, none⟩)] w fun e w' => e = .returned (.int .i64 sp.length) ∧ w' = w := by
  obtain ⟨⟨cc, q0, q1, q2, q3⟩, hl⟩ := H.heads
  clear H
  go_enter Tryz.func139, Tryz.ntmps139
  go_wp2_with fail
  go_ret
  exact ⟨rfl, rfl⟩
theorem spot_out_lk (i : Int) (hi : i < 0 ∨ (sp.length : Int) ≤ i) : Calls Tryz.prog 142 #[.pointer (some ⟨gl, 0, none⟩), .int .i64 i] w fun e w' => e = .returned (.pointer none) ∧ w' = w := by
  have HS := Lib.hid (slots_lk gl ga ha hs P σ sp w H)
  obtain ⟨⟨cc, q0, q1, q2, q3⟩, hl⟩ := H.heads
  clear H
  by_cases h0 : i < 0
  · go_enter Tryz.func142, Tryz.ntmps142
    go_wp2_with fail
    go_ret
    exact ⟨rfl, rfl⟩
  · have h1 : (sp.length : Int) ≤ i := by omega
    go_enter Tryz.func142, Tryz.ntmps142
    go_wp2_with fail
    refine (HS.out).mono ?_
    rintro e wx ⟨rfl, hwx⟩
    obtain rfl := hwx.symm
    go_wp2_with fail
    go_ret
    exact ⟨rfl, rfl⟩
theorem spot_in_lk (k : Nat) (hk : k < sp.length) : Calls Tryz.prog 142 #[.pointer (some ⟨gl, 0, none⟩), .int .i64 (k : Int)] w fun e w' => e = .returned (.pointer (some ⟨hs, k * 4, none⟩)) ∧ w' = w := by
  have HS := Lib.hid (slots_lk gl ga ha hs P σ sp w H)
  obtain ⟨⟨cc, q0, q1, q2, q3⟩, hl⟩ := H.heads
  have h1 : (k : Int) < (sp.length : Int) := by omega
  have h2 : (0 : Int) ≤ (k : Int) := by omega
  clear H
  go_enter Tryz.func142, Tryz.ntmps142
  go_wp2_with fail
  refine (HS.out).mono ?_
  rintro e wx ⟨rfl, hwx⟩
  obtain rfl := hwx.symm
  go_wp2_with fail
  go_ret
  exact ⟨rfl, rfl⟩
theorem Spot_lk (i : Int) : Calls Tryz.prog 140 #[.pointer (some ⟨gl, 0, none⟩), .int .i64 i] w fun e w' => e = .returned (.agg #[.int .i64 (spOf sp i).pc, .int .i64 (spOf sp i).a, .int .i64 (spOf sp i).b, .int .i64 (spOf sp i).c]) ∧ Below w.heap.size w w' := by
  by_cases hi : i < 0 ∨ (sp.length : Int) ≤ i
  · rw [spOf_out hi]
    have HS := Lib.hid (fun W K => spot_out_lk gl ga ha hs P σ sp W K i hi)
    have HH := Lib.hid (H.same (below_new w (.cells #[.int .i64 0, .int .i64 0, .int .i64 0, .int .i64 0] 40)))
    clear H hi
    go_enter Tryz.func140, Tryz.ntmps140
    go_wp2_with fail
    refine (HS.out _ HH.out).mono ?_
    rintro e wx ⟨rfl, hwx⟩
    obtain rfl := hwx.symm
    go_wp2_with fail
    exact bodyPost_ret (v := .agg #[.int .i64 0, .int .i64 0, .int .i64 0, .int .i64 0]) (by simp [results, Tryz.results140, go_sem]) rfl ⟨rfl, (Below.refl _ _).alloc (Nat.le_refl _) _⟩
  · obtain ⟨k, rfl⟩ := Int.eq_ofNat_of_zero_le (show 0 ≤ i by omega)
    have hk : k < sp.length := by omega
    have HS := Lib.hid (fun W K => spot_in_lk gl ga ha hs P σ sp W K k hk)
    have HH := Lib.hid (H.same (below_new w (.cells #[.int .i64 0, .int .i64 0, .int .i64 0, .int .i64 0] 40)))
    obtain ⟨c0, c1, c2, c3, _⟩ := H.2.1.cells k hk
    have hlt := H.2.1.lt
    have e0 := spOf_in hk
    rw [e0]
    clear H hi e0
    generalize sp[k] = s at *
    obtain ⟨xp, xa, xb, xc⟩ := s
    simp only at c0 c1 c2 c3 ⊢
    go_enter Tryz.func140, Tryz.ntmps140
    go_wp2_with fail
    refine (HS.out _ HH.out).mono ?_
    rintro e wx ⟨rfl, hwx⟩
    obtain rfl := hwx.symm
    go_wp2_with fail
    exact bodyPost_ret (v := .agg #[.int .i64 xp, .int .i64 xa, .int .i64 xb, .int .i64 xc]) (by simp [results, Tryz.results140, go_sem]) rfl ⟨rfl, (Below.refl _ _).alloc (Nat.le_refl _) _⟩
end

end Go.Proofs.YtfnmggmgdmokcaaGreat.Ta

/- Package tas: Ask, Leave; a step by which a slot gets the word, or sets it free; New. -/
namespace Go.Proofs.YtfnmggmgdmokcaaGreat.Ta
open Go.RowKit Go.Proofs.YtfnmggmgdmokcaaGreat.Ara Go.Proofs.YtfnmggmgdmokcaaGreat.Lok

section
variable (gl ga ha hs : Nat) (P : Par) (σ : Ar) (sp : List Sp) (w : World) (H : LkAt w gl ga ha hs P σ sp) (k : Nat) (hk : k < sp.length)
include H hk
set_option maxHeartbeats 4000000 in
set_option maxRecDepth 100000 in
theorem ask_yes (hp : sp[k].pc = 0) (sp2 : List Sp) (h2 : sp2 = sp.set k { sp[k] with pc := 1, a := 1 }) : Calls Tryz.prog 137 #[.pointer (some ⟨gl, 0, none⟩), .int .i64 (k : Int)] w fun e w' => e = .returned (.bool true) ∧ LkAt w' gl ga ha hs P σ sp2 ∧ Mod [hs] w w' := by
  have HS := Lib.hid (spot_in_lk gl ga ha hs P σ sp w H k hk)
  obtain ⟨⟨cc, q0, q1, q2, q3⟩, hl32⟩ := H.heads
  obtain ⟨d1, d2, d3, d4, d5⟩ := H.2.2.2.2
  obtain ⟨s0, s1, s2, s3, sf⟩ := H.2.1.cells k hk
  rw [hp] at s0
  have HH := Lib.hid H
  have HP := Lib.hid hp
  have hu1 : LkAt (w.setCell ⟨hs, k * 4, none⟩ (.int .i64 1)) gl ga ha hs P σ (sp.set k { sp[k] with pc := 1 }) := H.spots (H.2.1.setPc k hk 1) ((Mod.refl [hs] w).setCell (by simp) _) (by rw [List.length_set])
  have hkk : k < (sp.set k { sp[k] with pc := 1 }).length := by rw [List.length_set]; exact hk
  have hu2 := hu1.spots (hu1.2.1.setA k hkk 1) ((Mod.refl [hs] _).setCell (by simp) _) (by rw [List.length_set])
  have e : (sp.set k { sp[k] with pc := 1 }).set k { (sp.set k { sp[k] with pc := 1 })[k] with a := 1 } = sp2 := by
    have e0 : (sp.set k { sp[k] with pc := 1 })[k] = { sp[k] with pc := 1 } := List.getElem_set_self hkk
    rw [e0, List.set_set, h2]
  rw [e] at hu2
  have HU := Lib.hid hu2
  have f0 := sf (k * 4)
  have f1 := sf (k * 4 + 1)
  clear hu1 hu2 e h2 hkk H hp
  go_enter Tryz.func137, Tryz.ntmps137
  go_wp2_with fail
  refine (HS.out).mono ?_
  rintro e wx ⟨rfl, hwx⟩
  obtain rfl := hwx.symm
  go_wp2_with fail
  go_ret
  exact ⟨rfl, HU.out, ((Mod.refl _ _).setCell (by simp) _).setCell (by simp) _⟩
set_option maxHeartbeats 4000000 in
set_option maxRecDepth 100000 in
theorem leave_yes (hp : sp[k].pc = 10) (sp2 : List Sp) (h2 : sp2 = sp.set k { sp[k] with pc := 11 }) : Calls Tryz.prog 138 #[.pointer (some ⟨gl, 0, none⟩), .int .i64 (k : Int)] w fun e w' => e = .returned (.bool true) ∧ LkAt w' gl ga ha hs P σ sp2 ∧ Mod [hs] w w' := by
  have HS := Lib.hid (spot_in_lk gl ga ha hs P σ sp w H k hk)
  obtain ⟨⟨cc, q0, q1, q2, q3⟩, hl32⟩ := H.heads
  obtain ⟨d1, d2, d3, d4, d5⟩ := H.2.2.2.2
  obtain ⟨s0, s1, s2, s3, sf⟩ := H.2.1.cells k hk
  rw [hp] at s0
  have HH := Lib.hid H
  have HP := Lib.hid hp
  have HU := Lib.hid (show LkAt (w.setCell ⟨hs, k * 4, none⟩ (.int .i64 11)) gl ga ha hs P σ sp2 by rw [h2]; exact H.spots (H.2.1.setPc k hk 11) ((Mod.refl [hs] w).setCell (by simp) _) (by rw [List.length_set]))
  have f0 := sf (k * 4)
  clear h2 H hp
  go_enter Tryz.func138, Tryz.ntmps138
  go_wp2_with fail
  refine (HS.out).mono ?_
  rintro e wx ⟨rfl, hwx⟩
  obtain rfl := hwx.symm
  go_wp2_with fail
  go_ret
  exact ⟨rfl, HU.out, (Mod.refl _ _).setCell (by simp) _⟩
set_option maxHeartbeats 4000000 in
set_option maxRecDepth 100000 in
theorem step_one_yes (ho : σ.ops ≤ 1000000) (hp : sp[k].pc = 1) (hc : (σ.has P.word && (σ.get P.word == 0)) = true) (sp2 : List Sp) (h2 : sp2 = sp.set k { sp[k] with pc := 10 }) : Calls Tryz.prog 141 #[.pointer (some ⟨gl, 0, none⟩), .int .i64 (k : Int)] w fun e w' => e = .returned (.bool true) ∧ LkAt w' gl ga ha hs P (σ.op 4 P.word true ((k : Int) + 1)) sp2 ∧ Mod [ga, ha, hs] w w' := by
  have HSt := fun W (K : LkAt W gl ga ha hs P σ sp) => cas_any ga ha σ W K.1 ho P.word 0 ((k : Int) + 1)
  rw [hc] at HSt
  replace HSt := Lib.hid HSt
  have HS := Lib.hid (spot_in_lk gl ga ha hs P σ sp w H k hk)
  obtain ⟨⟨cc, q0, q1, q2, q3⟩, hl32⟩ := H.heads
  obtain ⟨d1, d2, d3, d4, d5⟩ := H.2.2.2.2
  obtain ⟨s0, s1, s2, s3, sf⟩ := H.2.1.cells k hk
  rw [hp] at s0
  have HH := Lib.hid H
  have HP := Lib.hid hp
  have HC := Lib.hid (fun W (K : LkAt W gl ga ha hs P (σ.op 4 P.word true ((k : Int) + 1)) sp) => show W.cell? ⟨hs, k * 4, none⟩ = some (.int .i64 sp[k].pc) ∧ W.frozen? ⟨hs, k * 4, none⟩ = false ∧ LkAt (W.setCell ⟨hs, k * 4, none⟩ (.int .i64 10)) gl ga ha hs P (σ.op 4 P.word true ((k : Int) + 1)) sp2 from ⟨(K.2.1.cells k hk).1, (K.2.1.cells k hk).2.2.2.2 _, by rw [h2]; exact K.spots (K.2.1.setPc k hk 10) ((Mod.refl [hs] W).setCell (by simp) _) (by rw [List.length_set])⟩)
  have e1 : IntKind.i64.wrap ((k : Int) + 1) = (k : Int) + 1 := IntWalk.i64_in _ (by omega)
  generalize σ.op 4 P.word true ((k : Int) + 1) = σ2 at *
  generalize sp[k].pc = xp at *
  clear h2 H hp hc ho
  go_enter Tryz.func141, Tryz.ntmps141
  go_wp2_with fail
  refine (HS.out).mono ?_
  rintro e wx ⟨rfl, hwx⟩
  obtain rfl := hwx.symm
  go_wp2_with fail
  go_region_held3 (fun V => V.cell? ⟨gl, 0, none⟩ = some (.pointer (some ⟨ga, 0, none⟩)) ∧ V.cell? ⟨gl, 1, none⟩ = some (.int .i64 P.word))
    (first | exact ⟨q0, q1⟩ | exact k2)
    (first
      | (go_at_call 143; refine (HSt.out _ (HH.out.drewN 1)).mono ?_; rintro e w2 ⟨rfl, ha2, hm2⟩; have k2 := And.intro (keepM hm2 (show (w.drewN 1).cell? _ = _ from q0) (by simp; omega)) (keepM hm2 (show (w.drewN 1).cell? _ = _ from q1) (by simp; omega)); have H2 := Lib.hid ((HH.out.drewN 1).arena ha2 hm2)))
  have hmm : Mod [ga, ha, hs] w w2 := ((Mod.refl _ _).drewN 1).trans (hm2.sub (by simp))
  clear k2 ha2 hm2
  obtain ⟨c0, f0, h3⟩ := HC.out _ H2.out
  have H3 := Lib.hid h3
  clear h3
  go_wp2_with fail
  go_ret
  exact ⟨rfl, H3.out, hmm.setCell (by simp) _⟩
set_option maxHeartbeats 4000000 in
set_option maxRecDepth 100000 in
theorem step_out (ho : σ.ops ≤ 1000000) (hp : sp[k].pc = 11) (sp2 : List Sp) (h2 : sp2 = sp.set k { sp[k] with pc := 0 }) : Calls Tryz.prog 141 #[.pointer (some ⟨gl, 0, none⟩), .int .i64 (k : Int)] w fun e w' => e = .returned (.bool true) ∧ LkAt w' gl ga ha hs P (σ.op 2 P.word true 0) sp2 ∧ Mod [ga, ha, hs] w w' := by
  have HSt := Lib.hid (fun W (K : LkAt W gl ga ha hs P σ sp) => store_any ga ha σ W K.1 ho P.word 0)
  have HS := Lib.hid (spot_in_lk gl ga ha hs P σ sp w H k hk)
  obtain ⟨⟨cc, q0, q1, q2, q3⟩, hl32⟩ := H.heads
  obtain ⟨d1, d2, d3, d4, d5⟩ := H.2.2.2.2
  obtain ⟨s0, s1, s2, s3, sf⟩ := H.2.1.cells k hk
  rw [hp] at s0
  have HH := Lib.hid H
  have HP := Lib.hid hp
  have HC := Lib.hid (fun W (K : LkAt W gl ga ha hs P (σ.op 2 P.word true 0) sp) => show W.cell? ⟨hs, k * 4, none⟩ = some (.int .i64 sp[k].pc) ∧ W.frozen? ⟨hs, k * 4, none⟩ = false ∧ LkAt (W.setCell ⟨hs, k * 4, none⟩ (.int .i64 0)) gl ga ha hs P (σ.op 2 P.word true 0) sp2 from ⟨(K.2.1.cells k hk).1, (K.2.1.cells k hk).2.2.2.2 _, by rw [h2]; exact K.spots (K.2.1.setPc k hk 0) ((Mod.refl [hs] W).setCell (by simp) _) (by rw [List.length_set])⟩)
  generalize σ.op 2 P.word true 0 = σ2 at *
  generalize sp[k].pc = xp at *
  clear h2 H hp ho
  go_enter Tryz.func141, Tryz.ntmps141
  go_wp2_with fail
  refine (HS.out).mono ?_
  rintro e wx ⟨rfl, hwx⟩
  obtain rfl := hwx.symm
  go_wp2_with fail
  go_region_held3 (fun V => V.cell? ⟨gl, 0, none⟩ = some (.pointer (some ⟨ga, 0, none⟩)) ∧ V.cell? ⟨gl, 1, none⟩ = some (.int .i64 P.word))
    (first | exact ⟨q0, q1⟩ | exact k2)
    (first
      | (go_at_call 56; refine (HSt.out _ (HH.out.drewN 1)).mono ?_; rintro e w2 ⟨rfl, ha2, hm2⟩; have k2 := And.intro (keepM hm2 (show (w.drewN 1).cell? _ = _ from q0) (by simp; omega)) (keepM hm2 (show (w.drewN 1).cell? _ = _ from q1) (by simp; omega)); have H2 := Lib.hid ((HH.out.drewN 1).arena ha2 hm2)))
  have hmm : Mod [ga, ha, hs] w w2 := ((Mod.refl _ _).drewN 1).trans (hm2.sub (by simp))
  clear k2 ha2 hm2
  obtain ⟨c0, f0, h3⟩ := HC.out _ H2.out
  have H3 := Lib.hid h3
  clear h3
  go_wp2_with fail
  go_ret
  exact ⟨rfl, H3.out, hmm.setCell (by simp) _⟩
end
theorem infoSp : (Tryz.prog.info? 40).map (fun i => (i.zero, i.size, i.bytes)) = some (some (.agg #[.int .i64 0, .int .i64 0, .int .i64 0, .int .i64 0]), 4, 32) := by kernel_rfl
def zeroS (n : Nat) : List Sp := List.replicate n sp0
theorem zeroS_flat (n : Nat) : ((List.replicate n ((Value.agg #[.int .i64 0, .int .i64 0, .int .i64 0, .int .i64 0]).cells.toList)).flatten).toArray = ((zeroS n).flatMap decSp).toArray := by
  congr 1
  induction n with
  | zero => rfl
  | succ n ih => rw [List.replicate_succ, List.flatten_cons, ih, zeroS, zeroS, List.replicate_succ, List.flatMap_cons]; rfl
theorem make_spots (n : Nat) (h : n ≤ 65536) (W : World) : (Instr.makeSlice 69 (.int .i64 (n : Int)) (.int .i64 (n : Int))).run Tryz.prog W = .ok (.slice (some ⟨W.heap.size, 0, none⟩) n n) (W.alloc (.cells ((zeroS n).flatMap decSp).toArray 40)) := by
  rw [run_make_rows (P := Tryz.prog) 69 40 (.agg #[.int .i64 0, .int .i64 0, .int .i64 0, .int .i64 0]) 4 32 Tryz.underlying69 infoSp rfl .i64 .i64 n (by omega) (by omega) W, zeroS_flat]
theorem spAt_new (W : World) (n : Nat) : SpAt (W.alloc (.cells ((zeroS n).flatMap decSp).toArray 40)) W.heap.size (zeroS n) :=
  ⟨_, blk_new _ _, by rw [List.take_of_length_le (by rw [flat_len decSp_len]; omega)]⟩
set_option maxHeartbeats 4000000 in
set_option maxRecDepth 100000 in
theorem new_lk (ga ha : Nat) (σ σ1 : Ar) (w : World) (H : ArAt w ga ha σ) (hh : ha < w.heap.size) (n : Nat) (n1 : 1 ≤ n) (n2 : n ≤ 32) (most : Int) (m1 : 1 ≤ most) (m2 : most ≤ 1024) (next : Int)
    (ht : σ.take 1 = ((next, 0), σ1)) :
    Calls Tryz.prog 68 #[.pointer (some ⟨ga, 0, none⟩), .int .i64 (n : Int), .int .i64 most] w fun e w' => ∃ gl hs, e = .returned (.tuple #[.pointer (some ⟨gl, 0, none⟩), .int .i64 0]) ∧ LkAt w' gl ga ha hs ⟨next, most⟩ σ1 (zeroS n) ∧ w.heap.size ≤ gl ∧ w.heap.size ≤ hs ∧ Mod [ga, ha] w w' := by
  have HT := take_any ga ha σ w H 1
  rw [ht] at HT
  replace HT := Lib.hid HT
  have hmk := fun W => make_spots n (by omega) W
  have hga := H.lt
  have i1 : (1 : Int) ≤ (n : Int) := by omega
  have i2 : (n : Int) ≤ 32 := by omega
  clear H ht
  go_enter Tryz.func68, Tryz.ntmps68
  go_wp2_with fail
  refine HT.out.mono ?_
  rintro e w2 ⟨rfl, h2, hm2⟩
  have H2 := Lib.hid h2
  clear h2
  have hz2 := hm2.size
  have hK : LkAt ((w2.alloc (.cells ((zeroS n).flatMap decSp).toArray 40)).alloc (.cells #[.pointer (some ⟨ga, 0, none⟩), .int .i64 next, .int .i64 most, .slice (some ⟨w2.heap.size, 0, none⟩) n n] 141)) (w2.heap.size + 1) ga ha w2.heap.size ⟨next, most⟩ σ1 (zeroS n) := by
    have hb := (below_new w2 (.cells ((zeroS n).flatMap decSp).toArray 40))
    have hb2 := below_new (w2.alloc (.cells ((zeroS n).flatMap decSp).toArray 40)) (.cells #[.pointer (some ⟨ga, 0, none⟩), .int .i64 next, .int .i64 most, .slice (some ⟨w2.heap.size, 0, none⟩) n n] 141)
    have hbl := blk_new (w2.alloc (.cells ((zeroS n).flatMap decSp).toArray 40)) (.cells #[.pointer (some ⟨ga, 0, none⟩), .int .i64 next, .int .i64 most, .slice (some ⟨w2.heap.size, 0, none⟩) n n] 141)
    have hzl : (zeroS n).length = n := by simp [zeroS]
    refine ⟨(H2.out.step hb).step hb2, (spAt_new w2 n).mod (S := []) (Mod.of_below hb2) (by simp), by omega, ⟨n, ?_⟩, by omega, by omega, by omega, by omega, by omega⟩
    rw [hzl]
    simpa using hbl
  have hmm : Mod [ga, ha] w ((w2.alloc (.cells ((zeroS n).flatMap decSp).toArray 40)).alloc (.cells #[.pointer (some ⟨ga, 0, none⟩), .int .i64 next, .int .i64 most, .slice (some ⟨w2.heap.size, 0, none⟩) n n] 141)) := (hm2.alloc _).alloc _
  have HK := Lib.hid hK
  clear H2 hm2 hK
  have e0 : (w2.alloc (.cells ((zeroS n).flatMap decSp).toArray 40)).heap.size = w2.heap.size + 1 := by simp
  go_wp2_with fail
  go_ret2
  exact ⟨w2.heap.size + 1, w2.heap.size, rfl, HK.out, by omega, hz2, hmm⟩
end Go.Proofs.YtfnmggmgdmokcaaGreat.Ta

