/- Merged texts: Sny, Sp3, Sp4, Sp5, Sp6, Sp8, Sp9, Sp10, Sp11, Sp12. -/
import Derived.Test.YthffhhgaeolpgaaGreatSq20
import Derived.Laws.ResultCell
import Derived.RegionTactic
import Derived.BigRegion
import Derived.Maps.OwnSet
set_option linter.unusedVariables false
/- Layer 22's law: how long plans stay. -/
namespace Go.Proofs.YthffhhgaeolpgaaGreat.Sn
open Go.RowKit Go.Proofs.YthffhhgaeolpgaaGreat.Ara Go.Proofs.YthffhhgaeolpgaaGreat.Lok Go.Proofs.YthffhhgaeolpgaaGreat.Fl Go.Proofs.YthffhhgaeolpgaaGreat.Ga

def styR (m : Int) : List Pl → Int → Int
  | [], n => n
  | p :: r, n => if p.stay < 0 ∨ m < p.stay then -1 else styR m r (if n < p.stay then p.stay else n)
theorem styR_step {m n : Int} {ps : List Pl} {T j : Nat} (h1 : j < ps.length) (h2 : j < T) : styR m ((ps.take T).drop j) n = if (ps[j]).stay < 0 ∨ m < (ps[j]).stay then -1 else styR m ((ps.take T).drop (j + 1)) (if n < (ps[j]).stay then (ps[j]).stay else n) := by
  rw [List.drop_eq_getElem_cons (by rw [List.length_take]; omega), List.getElem_take]
  rfl
theorem styR_end {m n : Int} {ps : List Pl} {T j : Nat} (h : ps.length ≤ j ∨ T ≤ j) : styR m ((ps.take T).drop j) n = n := by
  rw [List.drop_eq_nil_of_le (by rw [List.length_take]; omega)]
  rfl
theorem styR_ge {m : Int} : ∀ (ps : List Pl) (n : Int), 0 ≤ styR m ps n → n ≤ styR m ps n ∧ ∀ p ∈ ps, 0 ≤ p.stay ∧ p.stay ≤ m ∧ p.stay ≤ styR m ps n
  | [], n, _ => ⟨Int.le_refl _, fun p hp => by simp at hp⟩
  | p :: r, n, h => by
    unfold styR at h ⊢
    by_cases hc : p.stay < 0 ∨ m < p.stay
    · rw [if_pos hc] at h; omega
    · rw [if_neg hc] at h ⊢
      obtain ⟨h1, h2⟩ := styR_ge r _ h
      have h3 : n ≤ (if n < p.stay then p.stay else n) ∧ p.stay ≤ (if n < p.stay then p.stay else n) := by split <;> omega
      generalize (if n < p.stay then p.stay else n) = y at *
      refine ⟨by omega, fun q hq => ?_⟩
      rcases List.mem_cons.1 hq with rfl | hq
      · exact ⟨by omega, by omega, by omega⟩
      · exact h2 q hq
theorem styR_le {m : Int} (hm : 0 ≤ m) : ∀ (ps : List Pl) (n : Int), n ≤ m → styR m ps n ≤ m
  | [], n, h => h
  | p :: r, n, h => by
    unfold styR
    split
    · omega
    · rename_i hc
      exact styR_le hm r _ (by split <;> omega)
set_option maxRecDepth 100000 in
theorem rstay_any (ps : List Pl) (A : Option Addr) (cap T : Nat) (m : Int) (w : World) (hm : ps.length ≤ 1000) (hT : T ≤ 1000) (hs : Sl w w.heap.size A (ps.flatMap decPl)) :
    Calls Tryz.prog 45 #[.slice A ps.length cap, .int .i64 (T : Int), .int .i64 m] w fun e w' => e = .returned (.int .i64 (styR m (ps.take T) 0)) ∧ w' = w := by
  obtain ⟨tgt, ht⟩ : ∃ tgt, styR m ((ps.take T).drop 0) 0 = tgt := ⟨_, rfl⟩
  rw [show styR m (ps.take T) 0 = tgt from ht]
  have HT := Lib.hid ht
  clear ht
  go_enter Tryz.func45, Tryz.ntmps45
  go_wp2_with fail
  go_loopw [7, 8] (fun n i wr => ∃ j : Nat, j ≤ ps.length ∧ j ≤ T ∧ i = .int .i64 (j : Int) ∧ ∃ x : Int, n = .int .i64 x ∧ styR m ((ps.take T).drop j) x = tgt ∧ wr = w) (fun _ i _ => ps.length - (intOf i).toNat)
  case atStart => exact ⟨0, Nat.zero_le _, Nat.zero_le _, rfl, 0, rfl, HT.out, rfl⟩
  case round =>
    obtain ⟨j, hj, hjT, rfl, x, rfl, hrun, rfl⟩ := hrel
    by_cases hlt : j < ps.length
    · have i1 : (j : Int) < (ps.length : Int) := by omega
      by_cases h2 : j < T
      · have i2 : (j : Int) < (T : Int) := by omega
        obtain ⟨b, off, rfl, hbb, hcell⟩ := Sl_at (k := 4) (fun _ => rfl) (by omega) hs (by omega)
        have c1 := hcell j hlt 1 (by omega)
        simp only [decPl, List.getElem?_cons_zero, List.getElem?_cons_succ, Nat.add_zero, ← Nat.add_assoc] at c1
        rw [styR_step hlt h2] at hrun
        clear hcell hs
        generalize (ps[j]).stay = st at *
        by_cases k1 : st < 0
        · rw [if_pos (.inl k1)] at hrun
          have HN := Lib.hid hrun
          clear hrun
          go_wp2_with fail
          go_ret
          exact ⟨by rw [← HN.out]; rfl, rfl⟩
        · by_cases k2 : m < st
          · rw [if_pos (.inr k2)] at hrun
            have HN := Lib.hid hrun
            clear hrun
            go_wp2_with fail
            go_ret
            exact ⟨by rw [← HN.out]; rfl, rfl⟩
          · rw [if_neg (by omega)] at hrun
            by_cases k3 : x < st
            · rw [if_pos k3] at hrun
              have HN := Lib.hid hrun
              clear hrun
              go_wp2_with fail
              go_roundw
              case rel => exact ⟨j + 1, by omega, by omega, by go_num, _, rfl, HN.out, trivial⟩
              case measure => simp [intOf]; omega
            · rw [if_neg k3] at hrun
              have HN := Lib.hid hrun
              clear hrun
              go_wp2_with fail
              go_roundw
              case rel => exact ⟨j + 1, by omega, by omega, by go_num, _, rfl, HN.out, trivial⟩
              case measure => simp [intOf]; omega
      · have i2 : ¬ (j : Int) < (T : Int) := by omega
        rw [styR_end (.inr (by omega))] at hrun
        clear hs
        have HN := Lib.hid hrun
        clear hrun
        go_wp2_with fail
        go_ret
        exact ⟨by rw [← HN.out]; rfl, rfl⟩
    · rw [styR_end (.inl (by omega))] at hrun
      have i1 : ¬ (j : Int) < (ps.length : Int) := by omega
      clear hs
      have HN := Lib.hid hrun
      clear hrun
      go_wp2_with fail
      go_ret
      exact ⟨by rw [← HN.out]; rfl, rfl⟩
end Go.Proofs.YthffhhgaeolpgaaGreat.Sn

/- Walks of layer 22: the reference's Each, Some. -/
namespace Go.Proofs.YthffhhgaeolpgaaGreat.Sp
open Go.RowKit
theorem each2_zero (t k s : Int) : eachD 2 t k s = 0 ↔ mayD t k s = false := by
  unfold eachD
  cases hm : mayD t k s with
  | false => simp
  | true =>
    obtain ⟨⟨b1, b2⟩, b3, b4⟩ := bnd (o := onceD 2) (e := stepD 2) hm (once_in 2) (step_in 2)
    obtain ⟨h1, h2, h3, h4, h5, h6⟩ := (may_iff t k s).1 hm
    rw [if_pos ⟨rfl, rfl⟩]
    have ho := once_in 2
    generalize (t - 1) * (s + stepD 2) = P at *
    generalize onceD 2 = o at *
    have hpos : 1 * 1 ≤ k * (o + P) := Int.mul_le_mul h3 (by omega) (by omega) (by omega)
    constructor
    · intro h; omega
    · intro h; cases h
end Go.Proofs.YthffhhgaeolpgaaGreat.Sp

/- Walks of layer 12's reference: next, behind. -/
namespace Go.Proofs.YthffhhgaeolpgaaGreat.Sp
open Go.RowKit
def dE (e : E) : List Value := [.int .i64 e.kind, .int .i64 e.th, .bool e.rd, .int .i64 e.ct]
theorem sl_ev {w : World} {Bd : Nat} {A : Option Addr} {l : List E} (h : Sl w Bd A (l.flatMap dE)) (hk : 0 < l.length) : ∃ b off, A = some ⟨b, off, none⟩ ∧ b < Bd ∧ ∀ j, j < l.length → w.cell? ⟨b, off + j * 4, none⟩ = some (.int .i64 (l.getD j e0).kind) ∧ w.cell? ⟨b, off + j * 4 + 1, none⟩ = some (.int .i64 (l.getD j e0).th) ∧ w.cell? ⟨b, off + j * 4 + 2, none⟩ = some (.bool (l.getD j e0).rd) ∧ w.cell? ⟨b, off + j * 4 + 3, none⟩ = some (.int .i64 (l.getD j e0).ct) := by
  obtain ⟨b, off, rfl, hb, hc⟩ := Sl_at (dec := dE) (k := 4) (fun _ => rfl) (by omega) h hk
  refine ⟨b, off, rfl, hb, fun j hj => ?_⟩
  have h0 := hc j hj 0 (by omega)
  have h1 := hc j hj 1 (by omega)
  have h2 := hc j hj 2 (by omega)
  have h3 := hc j hj 3 (by omega)
  simp only [dE, List.getElem?_cons_zero, List.getElem?_cons_succ, Nat.add_zero, ← Nat.add_assoc] at h0 h1 h2 h3
  have e : l.getD j e0 = l[j] := by rw [List.getD_eq_getElem?_getD, List.getElem?_eq_getElem hj]; rfl
  rw [e]
  exact ⟨h0, h1, h2, h3⟩
end Go.Proofs.YthffhhgaeolpgaaGreat.Sp

/- Walks of layer 12's reference: stay. -/
namespace Go.Proofs.YthffhhgaeolpgaaGreat.Sp
open Go.RowKit
def vSt (s : St) : Value := .agg #[.int .i64 s.th, .bool s.rd, .int .i64 s.ask, .int .i64 s.en, .int .i64 s.ex, .int .i64 s.re, .int .i64 s.ct]
theorem below2 (w : World) (a b : Obj) : Below w.heap.size w ((w.alloc a).alloc b) := (below_new _ _).alloc (by simp) _
end Go.Proofs.YthffhhgaeolpgaaGreat.Sp

/- Walks of layer 12's reference: Of. -/
namespace Go.Proofs.YthffhhgaeolpgaaGreat.Sp
open Go.RowKit
def dSt (s : St) : List Value := [.int .i64 s.th, .bool s.rd, .int .i64 s.ask, .int .i64 s.en, .int .i64 s.ex, .int .i64 s.re, .int .i64 s.ct]
def s0 : St := ⟨0, false, 0, 0, 0, 0, 0⟩
theorem infoSt : (Tryz.prog.info? 162).map (fun i => (i.zero, i.size, i.bytes)) = some (some (.agg #[.int .i64 0, .bool false, .int .i64 0, .int .i64 0, .int .i64 0, .int .i64 0, .int .i64 0]), 7, 56) := by kernel_rfl
theorem sl_st {w : World} {Bd : Nat} {A : Option Addr} {l : List St} (h : Sl w Bd A (l.flatMap dSt)) (hk : 0 < l.length) : ∃ b off, A = some ⟨b, off, none⟩ ∧ b < Bd ∧ ∀ j, j < l.length → w.cell? ⟨b, off + j * 7, none⟩ = some (.int .i64 (l.getD j s0).th) ∧ w.cell? ⟨b, off + j * 7 + 2, none⟩ = some (.int .i64 (l.getD j s0).ask) ∧ w.cell? ⟨b, off + j * 7 + 3, none⟩ = some (.int .i64 (l.getD j s0).en) ∧ w.cell? ⟨b, off + j * 7 + 5, none⟩ = some (.int .i64 (l.getD j s0).re) := by
  obtain ⟨b, off, rfl, hb, hc⟩ := Sl_at (dec := dSt) (k := 7) (fun _ => rfl) (by omega) h hk
  refine ⟨b, off, rfl, hb, fun j hj => ?_⟩
  have h0 := hc j hj 0 (by omega)
  have h2 := hc j hj 2 (by omega)
  have h3 := hc j hj 3 (by omega)
  have h5 := hc j hj 5 (by omega)
  simp only [dSt, List.getElem?_cons_zero, List.getElem?_cons_succ, Nat.add_zero, ← Nat.add_assoc] at h0 h2 h3 h5
  have e : l.getD j s0 = l[j] := by rw [List.getD_eq_getElem?_getD, List.getElem?_eq_getElem hj]; rfl
  rw [e]
  exact ⟨h0, h2, h3, h5⟩
theorem outR_len (l : List E) : ∀ k, (outR l k).length ≤ k
  | 0 => Nat.le_refl _
  | k + 1 => by
    have := outR_len l k
    unfold outR stepR
    simp only
    split
    · rw [List.length_append, List.length_singleton]; omega
    · omega
end Go.Proofs.YthffhhgaeolpgaaGreat.Sp

/- The walk of layer 12's reference: Of. -/
namespace Go.Proofs.YthffhhgaeolpgaaGreat.Sp
open Go.RowKit
theorem frame61 {a : Act} (h : a.tmps.size = 61) (hd : a.defers = []) : ∃ u : Nat → Value, a = { tmps := #[u 0, u 1, u 2, u 3, u 4, u 5, u 6, u 7, u 8, u 9, u 10, u 11, u 12, u 13, u 14, u 15, u 16, u 17, u 18, u 19, u 20, u 21, u 22, u 23, u 24, u 25, u 26, u 27, u 28, u 29, u 30, u 31, u 32, u 33, u 34, u 35, u 36, u 37, u 38, u 39, u 40, u 41, u 42, u 43, u 44, u 45, u 46, u 47, u 48, u 49, u 50, u 51, u 52, u 53, u 54, u 55, u 56, u 57, u 58, u 59, u 60], defers := [] } ∧ ∀ n, a.tmps.getD n undef = u n := by
  refine ⟨fun n => a.tmps.getD n undef, ?_, fun _ => rfl⟩
  have h1 := arr_lit a.tmps h
  cases a with
  | mk t d =>
    simp only at hd h1
    subst hd
    congr 1
def busy (k : Nat) (t : Int) (s : St) : Bool := decide (s.th = t) && (decide (s.re < 0) || decide ((k : Int) < s.re))
def freeD (out : List St) (k : Nat) (t : Int) (j : Nat) : Bool := (out.take j).all fun s => !busy k t s
def OfJ1 (l : List E) (w : World) (A : Option Addr) (cap : Nat) (a : Act) (W : World) : Prop :=
  a.tmps.size = 61 ∧ a.defers = [] ∧ a.tmps.getD 0 undef = .slice A l.length cap ∧ ∃ (k : Nat) (v : Value), a.tmps.getD 3 undef = v ∧ a.tmps.getD 4 undef = .int .i64 (k : Int) ∧ k ≤ l.length ∧
    W.ownsRow w.heap.size 162 7 v (outR l k).length ((outR l k).flatMap dSt) ∧ Below w.heap.size w W
def OfJ2 (l : List E) (out : List St) (t : Int) (A : Option Addr) (cap k : Nat) (B : Option Addr) (cb : Nat) (W1 : World) (a : Act) (W : World) : Prop :=
  a.tmps.size = 61 ∧ a.defers = [] ∧ a.tmps.getD 0 undef = .slice A l.length cap ∧ a.tmps.getD 3 undef = .slice B out.length cb ∧ a.tmps.getD 4 undef = .int .i64 (k : Int) ∧ ∃ q, W = W1.drewN q ∧ ∃ j : Nat, a.tmps.getD 5 undef = .bool (freeD out k t j) ∧ a.tmps.getD 6 undef = .int .i64 (j : Int) ∧ j ≤ out.length
theorem stepR_ask {l : List E} {k : Nat} (h : (l.getD k e0).kind = 1) : stepR l (outR l k) k = if freeD (outR l k) k (l.getD k e0).th (outR l k).length = true then outR l k ++ [stay l k (l.getD k e0)] else outR l k := by
  unfold stepR freeD
  simp only [List.take_length, List.all_eq_true]
  by_cases hh : ∀ s ∈ outR l k, s.th = (l.getD k e0).th → ¬ (s.re < 0 ∨ (k : Int) < s.re)
  · rw [if_pos ⟨h, hh⟩, if_pos]
    intro s hs
    have := hh s hs
    unfold busy
    generalize (l.getD k e0).th = tt at *
    by_cases ht : s.th = tt
    · have := this ht
      simp [ht]
      omega
    · simp [ht]
  · rw [if_neg (fun x => hh x.2), if_neg]
    intro hx
    apply hh
    intro s hs ht ho
    have := hx s hs
    unfold busy at this
    simp [ht] at this
    omega
theorem stepR_no {l : List E} {k : Nat} (h : ¬ (l.getD k e0).kind = 1) : stepR l (outR l k) k = outR l k := by
  unfold stepR
  simp only
  rw [if_neg (fun x => h x.1)]
theorem freeD_succ {out : List St} {k j : Nat} {t : Int} (hj : j < out.length) : freeD out k t (j + 1) = (freeD out k t j && !busy k t (out.getD j s0)) := by
  unfold freeD
  rw [List.take_succ_eq_append_getElem hj, List.all_append, List.getD_eq_getElem?_getD, List.getElem?_eq_getElem hj]
  simp
end Go.Proofs.YthffhhgaeolpgaaGreat.Sp

/- Walks of layer 22's reference: waits, enters, Keeps. -/
namespace Go.Proofs.YthffhhgaeolpgaaGreat.Sp
open Go.RowKit
theorem any_step {f : St → Bool} {l : List St} {j : Nat} (h : j < l.length) : (l.drop j).any f = (f (l.getD j s0) || (l.drop (j + 1)).any f) := by
  rw [List.drop_eq_getElem_cons h, List.any_cons, List.getD_eq_getElem?_getD, List.getElem?_eq_getElem h]
  rfl
theorem any_end {f : St → Bool} {l : List St} {j : Nat} (h : l.length ≤ j) : (l.drop j).any f = false := by rw [List.drop_eq_nil_of_le h]; rfl
def fW (k : Nat) (s : St) : Bool := decide (s.ask ≤ (k : Int)) && (decide (s.en < 0) || decide ((k : Int) < s.en))
def fE (k : Nat) (s : St) : Bool := decide (s.en = (k : Int))
end Go.Proofs.YthffhhgaeolpgaaGreat.Sp

/- Walks of layer 22's reference: Keeps, Moves. -/
namespace Go.Proofs.YthffhhgaeolpgaaGreat.Sp
open Go.RowKit
theorem frame57 {a : Act} (h : a.tmps.size = 57) (hd : a.defers = []) : ∃ u : Nat → Value, a = { tmps := #[u 0, u 1, u 2, u 3, u 4, u 5, u 6, u 7, u 8, u 9, u 10, u 11, u 12, u 13, u 14, u 15, u 16, u 17, u 18, u 19, u 20, u 21, u 22, u 23, u 24, u 25, u 26, u 27, u 28, u 29, u 30, u 31, u 32, u 33, u 34, u 35, u 36, u 37, u 38, u 39, u 40, u 41, u 42, u 43, u 44, u 45, u 46, u 47, u 48, u 49, u 50, u 51, u 52, u 53, u 54, u 55, u 56], defers := [] } ∧ ∀ n, a.tmps.getD n undef = u n := by
  refine ⟨fun n => a.tmps.getD n undef, ?_, fun _ => rfl⟩
  have h1 := arr_lit a.tmps h
  cases a with
  | mk t d =>
    simp only at hd h1
    subst hd
    congr 1
theorem frame51 {a : Act} (h : a.tmps.size = 51) (hd : a.defers = []) : ∃ u : Nat → Value, a = { tmps := #[u 0, u 1, u 2, u 3, u 4, u 5, u 6, u 7, u 8, u 9, u 10, u 11, u 12, u 13, u 14, u 15, u 16, u 17, u 18, u 19, u 20, u 21, u 22, u 23, u 24, u 25, u 26, u 27, u 28, u 29, u 30, u 31, u 32, u 33, u 34, u 35, u 36, u 37, u 38, u 39, u 40, u 41, u 42, u 43, u 44, u 45, u 46, u 47, u 48, u 49, u 50], defers := [] } ∧ ∀ n, a.tmps.getD n undef = u n := by
  refine ⟨fun n => a.tmps.getD n undef, ?_, fun _ => rfl⟩
  have h1 := arr_lit a.tmps h
  cases a with
  | mk t d =>
    simp only at hd h1
    subst hd
    congr 1
def OkS (n : Nat) (s : St) : Prop := 0 ≤ s.ask ∧ s.ask < (n : Int) ∧ -1 ≤ s.en ∧ s.en < (n : Int)
theorem outR_ok (l : List E) : ∀ s ∈ outR l l.length, OkS l.length s := fun s hs => by
  obtain ⟨a, e, ha, rfl⟩ := asked l l.length s hs
  have r := bh_range l (a : Int) 2 e.th
  show 0 ≤ (a : Int) ∧ (a : Int) < _ ∧ -1 ≤ bh l (a : Int) 2 e.th ∧ bh l (a : Int) 2 e.th < _
  omega
theorem all_step {f : St → Bool} {l : List St} {j : Nat} (h : j < l.length) : (l.drop j).all f = (f (l.getD j s0) && (l.drop (j + 1)).all f) := by
  rw [List.drop_eq_getElem_cons h, List.all_cons, List.getD_eq_getElem?_getD, List.getElem?_eq_getElem h]
  rfl
theorem all_end {f : St → Bool} {l : List St} {j : Nat} (h : l.length ≤ j) : (l.drop j).all f = true := by rw [List.drop_eq_nil_of_le h]; rfl
theorem getD_mem {l : List St} {j : Nat} (h : j < l.length) : l.getD j s0 ∈ l := by
  rw [List.getD_eq_getElem?_getD, List.getElem?_eq_getElem h]
  exact List.getElem_mem h
def fK (n : Nat) (within : Int) (s : St) : Bool := decide (waitD n s ≤ within)
theorem fK_neg {n : Nat} {within : Int} {s : St} (h : s.en < 0) : fK n within s = !decide (within < (n : Int) - s.ask - 1) := by
  unfold fK waitD
  rw [if_pos h]
  by_cases c : within < (n : Int) - s.ask - 1
  · rw [decide_eq_false (by omega), decide_eq_true c]; rfl
  · rw [decide_eq_true (by omega), decide_eq_false c]; rfl
theorem fK_pos {n : Nat} {within : Int} {s : St} (h : ¬ s.en < 0) : fK n within s = !decide (within < s.en - s.ask) := by
  unfold fK waitD
  rw [if_neg h]
  by_cases c : within < s.en - s.ask
  · rw [decide_eq_false (by omega), decide_eq_true c]; rfl
  · rw [decide_eq_true (by omega), decide_eq_false c]; rfl
def KJ (l : List E) (out : List St) (within : Int) (A : Option Addr) (cap : Nat) (B : Option Addr) (cb : Nat) (tgt : Bool) (W1 : World) (a : Act) (W : World) : Prop :=
  a.tmps.size = 57 ∧ a.defers = [] ∧ a.tmps.getD 0 undef = .int .i64 within ∧ a.tmps.getD 1 undef = .slice A l.length cap ∧ a.tmps.getD 5 undef = .slice B out.length cb ∧ ∃ q, W = W1.drewN q ∧ ∃ j : Nat, a.tmps.getD 6 undef = .int .i64 (j : Int) ∧ j ≤ out.length ∧ (out.drop j).all (fK l.length within) = tgt
def someK (out : List St) (within : Int) (at_ k : Nat) : Bool := (List.range k).any fun i => decide (1 ≤ i) && decide ((i : Int) ≤ within) && entD out (at_ + i)
theorem someK_one (out : List St) (within : Int) (at_ : Nat) : someK out within at_ 1 = false := by simp [someK]
theorem someK_succ (out : List St) (within : Int) (at_ k : Nat) (hk : 1 ≤ k) (h : (k : Int) ≤ within) : someK out within at_ (k + 1) = (someK out within at_ k || entD out (at_ + k)) := by
  unfold someK
  rw [List.range_succ, List.any_append]
  simp [hk, h]
theorem someK_end {out : List St} {n : Nat} {within : Int} {at_ k : Nat} (hk : 1 ≤ k) (hn : k ≤ n + 1) (h : within < (k : Int) ∨ n < k) : someK out within at_ k = someR out n within at_ := by
  unfold someK someR
  rw [Bool.eq_iff_iff, List.any_eq_true, List.any_eq_true]
  constructor
  · rintro ⟨i, hi, he⟩
    rw [List.mem_range] at hi
    simp only [Bool.and_eq_true, decide_eq_true_eq] at he
    refine ⟨i - 1, by rw [List.mem_range]; omega, ?_⟩
    simp only [Bool.and_eq_true, decide_eq_true_eq]
    rw [show i - 1 + 1 = i by omega]
    exact ⟨by omega, he.2⟩
  · rintro ⟨i, hi, he⟩
    rw [List.mem_range] at hi
    simp only [Bool.and_eq_true, decide_eq_true_eq] at he
    refine ⟨i + 1, by rw [List.mem_range]; omega, ?_⟩
    simp only [Bool.and_eq_true, decide_eq_true_eq]
    exact ⟨⟨by omega, by omega⟩, he.2⟩
theorem moves_no {out : List St} {n : Nat} {within : Int} {j : Nat} (hj : j < n) (h : badR out n within j = true) : movesD out n within = false := by
  unfold movesD
  rw [show (List.range n).any (badR out n within) = true from List.any_eq_true.2 ⟨j, List.mem_range.2 hj, h⟩]
  rfl
theorem moves_yes {out : List St} {n : Nat} {within : Int} (h : ∀ i, i < n → badR out n within i = false) : movesD out n within = true := by
  unfold movesD
  cases hx : (List.range n).any (badR out n within) with
  | false => rfl
  | true =>
    obtain ⟨i, hi, he⟩ := List.any_eq_true.1 hx
    rw [h i (List.mem_range.1 hi)] at he
    exact absurd he (by simp)
theorem upto_succ {f : Nat → Bool} {j : Nat} (h : ∀ i, i < j → f i = false) (hj : f j = false) : ∀ i, i < j + 1 → f i = false := fun i hi => by
  by_cases e : i = j
  · rw [e]; exact hj
  · exact h i (by omega)
def MJ (l : List E) (out : List St) (within : Int) (A : Option Addr) (cap : Nat) (B : Option Addr) (cb : Nat) (W1 : World) (a : Act) (W : World) : Prop :=
  a.tmps.size = 51 ∧ a.defers = [] ∧ a.tmps.getD 0 undef = .int .i64 within ∧ a.tmps.getD 1 undef = .slice A l.length cap ∧ a.tmps.getD 5 undef = .slice B out.length cb ∧ W = W1 ∧ ∃ j : Nat, a.tmps.getD 6 undef = .int .i64 (j : Int) ∧ j ≤ l.length ∧ Hid (∀ i, i < j → badR out l.length within i = false)
def IJ (l : List E) (out : List St) (within : Int) (A : Option Addr) (cap : Nat) (B : Option Addr) (cb j : Nat) (W1 : World) (a : Act) (W : World) : Prop :=
  a.tmps.size = 51 ∧ a.defers = [] ∧ a.tmps.getD 0 undef = .int .i64 within ∧ a.tmps.getD 1 undef = .slice A l.length cap ∧ a.tmps.getD 5 undef = .slice B out.length cb ∧ a.tmps.getD 6 undef = .int .i64 (j : Int) ∧ W = W1 ∧ ∃ (k : Nat) (b : Bool), a.tmps.getD 7 undef = .bool b ∧ b = someK out within j k ∧ a.tmps.getD 8 undef = .int .i64 (k : Int) ∧ 1 ≤ k ∧ k ≤ l.length + 1
end Go.Proofs.YthffhhgaeolpgaaGreat.Sp

/- The walk of layer 12: note. -/
namespace Go.Proofs.YthffhhgaeolpgaaGreat.Sp
open Go.RowKit
theorem modHere {g i : Nat} {a w : World} (h : Mod [g] a w) (u : Value) : Mod [g] a (w.setCell ⟨g, i, none⟩ u) := h.setCell (List.mem_singleton.2 rfl) u
theorem take_set (i n : Nat) (u : Value) (l : List Value) : (l.set i u).take n = (l.take n).set i u := by
  apply List.ext_getElem?
  intro j
  rw [List.getElem?_take, List.getElem?_set, List.getElem?_set, List.getElem?_take, List.length_take]
  by_cases h1 : j < n
  · rw [if_pos h1, if_pos h1]
    by_cases h2 : i = j
    · subst h2
      rw [if_pos rfl, if_pos rfl]
      by_cases h3 : i < l.length
      · rw [if_pos h3, if_pos (by omega)]
      · rw [if_neg h3, if_neg (by omega)]
    · rw [if_neg h2, if_neg h2]
  · rw [if_neg h1, if_neg h1]
    split
    · rw [if_neg (by omega)]
    · rfl
theorem getD_set {out : List St} {s : St} {i j : Nat} (h : j < out.length) : (out.set j s).getD i s0 = if i = j then s else out.getD i s0 := by
  rw [List.getD_eq_getElem?_getD, List.getElem?_set]
  by_cases e : j = i
  · subst e
    rw [if_pos rfl, if_pos h, if_pos rfl]
    rfl
  · rw [if_neg e, if_neg (fun x => e x.symm), List.getD_eq_getElem?_getD]
theorem own_put {w : World} {base g n cap size i : Nat} {e : TypeId} {xs : List Value} (h : w.ownsRow base e size (.slice (some ⟨g, 0, none⟩) n cap) n xs) (u : Value) :
    (w.setCell ⟨g, i, none⟩ u).ownsRow base e size (.slice (some ⟨g, 0, none⟩) n cap) n (xs.set i u) := by
  refine ⟨by rw [List.length_set]; exact h.1, ?_⟩
  rcases h.2 with ⟨hv, _⟩ | ⟨g', cap', cur, hv, hb, hg, h1, h2, h3, h4⟩
  · cases hv
  · cases hv
    exact .inr ⟨g, cap, cur.setIfInBounds i u, rfl, hb, blk_set hg i u, h1, h2, by simp [h3], by rw [← h4]; simp [take_set]⟩
theorem flat_set {α : Type} {dec : α → List Value} {k : Nat} (hdk : ∀ a, (dec a).length = k) {a : α} {i : Nat} {u : Value} (hi : i < k) : ∀ (l : List α) (j : Nat) (hj : j < l.length), dec a = (dec l[j]).set i u → (l.set j a).flatMap dec = (l.flatMap dec).set (j * k + i) u
  | [], j, hj, _ => absurd hj (Nat.not_lt_zero _)
  | y :: l, 0, _, he => by
    simp only [List.set_cons_zero, List.flatMap_cons, Nat.zero_mul, Nat.zero_add, List.getElem_cons_zero] at he ⊢
    rw [he, List.set_append_left _ _ (by rw [hdk]; exact hi)]
  | y :: l, j + 1, hj, he => by
    simp only [List.set_cons_succ, List.flatMap_cons, List.getElem_cons_succ] at he ⊢
    rw [flat_set hdk hi l j (by simpa using hj) he, List.set_append_right _ _ (by rw [hdk, Nat.add_mul]; omega), hdk]
    congr 2
    rw [Nat.add_mul]
    omega
def noteB (s : St) (e : E) : Bool := (decide (e.kind = 2) && decide (s.en < 0)) || (decide (e.kind = 3) && decide (0 ≤ s.en) && decide (s.ex < 0)) || (decide (e.kind = 4) && decide (0 ≤ s.ex))
theorem set_self (out : List St) (j : Nat) : out.set j (out.getD j s0) = out := by
  apply List.ext_getElem?
  intro i
  rw [List.getElem?_set]
  split
  · rename_i h
    subst h
    split
    · rename_i h2
      rw [List.getD_eq_getElem?_getD, List.getElem?_eq_getElem h2]
      rfl
    · rename_i h2
      rw [List.getElem?_eq_none (by omega)]
  · rfl
def SRow (base g cap : Nat) (out : List St) (w : World) : Prop := w.ownsRow base 162 7 (.slice (some ⟨g, 0, none⟩) out.length cap) out.length (out.flatMap dSt)
theorem SRow.put {base g cap : Nat} {out : List St} {w : World} (h : SRow base g cap out w) {j i : Nat} (hj : j < out.length) (hi : i < 7) {s : St} {u : Value} (he : dSt s = (dSt (out.getD j s0)).set i u) : SRow base g cap (out.set j s) (w.setCell ⟨g, j * 7 + i, none⟩ u) := by
  unfold SRow
  rw [flat_set (dec := dSt) (k := 7) (fun _ => rfl) hi out j hj (by rw [he, List.getD_eq_getElem?_getD, List.getElem?_eq_getElem hj]; rfl), List.length_set]
  exact own_put h u
theorem SRow.alloc {base g cap : Nat} {out : List St} {w : World} (h : SRow base g cap out w) (o : Obj) : SRow base g cap out (w.alloc o) := own_below h (Nat.le_refl _) (below_new w o)
theorem SRow.drew {base g cap : Nat} {out : List St} {w : World} (h : SRow base g cap out w) : SRow base g cap out w.drew := h
theorem SRow.cells {base g cap : Nat} {out : List St} {w : World} (h : SRow base g cap out w) {j : Nat} (hj : j < out.length) : g < w.heap.size ∧ w.cell? ⟨g, j * 7 + 3, none⟩ = some (.int .i64 (out.getD j s0).en) ∧ w.cell? ⟨g, j * 7 + 4, none⟩ = some (.int .i64 (out.getD j s0).ex) ∧ w.cell? ⟨g, j * 7 + 5, none⟩ = some (.int .i64 (out.getD j s0).re) ∧ w.cell? ⟨g, j * 7 + 6, none⟩ = some (.int .i64 (out.getD j s0).ct) ∧ ∀ i, w.frozen? ⟨g, i, none⟩ = false := by
  have h7 : out.flatMap dSt ≠ [] := by
    intro e
    have := flat_len (dec := dSt) (k := 7) (fun _ => rfl) out
    rw [e] at this
    simp at this
    omega
  rcases h.2 with ⟨hv, _⟩ | ⟨g', cap', cur, hv, hb, hg, h1, h2, h3, h4⟩
  · cases hv
  · cases hv
    have hsl : Sl w w.heap.size (some ⟨g, 0, none⟩) (out.flatMap dSt) := by
      obtain ⟨A, c, hA, _, _, hc⟩ := own_slice h
      cases hA
      exact hc
    obtain ⟨b, off, hA, hbb, hc⟩ := Sl_at (dec := dSt) (k := 7) (fun _ => rfl) (by omega) hsl (by omega)
    cases hA
    have e : out.getD j s0 = out[j] := by rw [List.getD_eq_getElem?_getD, List.getElem?_eq_getElem hj]; rfl
    have q3 := hc j hj 3 (by omega)
    have q4 := hc j hj 4 (by omega)
    have q5 := hc j hj 5 (by omega)
    have q6 := hc j hj 6 (by omega)
    simp only [dSt, List.getElem?_cons_zero, List.getElem?_cons_succ, Nat.zero_add] at q3 q4 q5 q6
    rw [e]
    exact ⟨hbb, q3, q4, q5, q6, fun i => blk_free hg i⟩
theorem noteP_ne {k : Nat} {s : St} {e : E} (h : noteB s e = false) : noteP k s e = s := by
  unfold noteB at h
  simp only [Bool.or_eq_false_iff, Bool.and_eq_false_iff, decide_eq_false_iff_not] at h
  unfold noteP
  rw [if_neg (by omega), if_neg (by omega), if_neg (by omega)]
theorem noteB_iff (s : St) (e : E) : noteB s e = true ↔ (e.kind = 2 ∧ s.en < 0) ∨ (e.kind = 3 ∧ 0 ≤ s.en ∧ s.ex < 0) ∨ (e.kind = 4 ∧ 0 ≤ s.ex) := by
  unfold noteB
  simp only [Bool.or_eq_true, Bool.and_eq_true, decide_eq_true_eq, or_assoc, and_assoc]
theorem noteB_no {s : St} {e : E} (h : ¬ ((e.kind = 2 ∧ s.en < 0) ∨ (e.kind = 3 ∧ 0 ≤ s.en ∧ s.ex < 0) ∨ (e.kind = 4 ∧ 0 ≤ s.ex))) : noteB s e = false := by
  cases hb : noteB s e with
  | false => rfl
  | true => exact absurd ((noteB_iff s e).1 hb) h
def NoteAft (base g cap k : Nat) (out' : List St) (b : Bool) (W : World) (x : Ending) (w' : World) : Prop :=
  x = .returned (.bool b) ∧ SRow base g cap out' w' ∧ Mod [g] W w'
set_option maxRecDepth 100000 in
set_option maxHeartbeats 4000000 in
theorem note_any (base g cap k j : Nat) (out : List St) (e : E) (W : World) (hr : SRow base g cap out W) (hj : j < out.length) :
    Calls Tryz.prog 112 #[.pointer (some ⟨g, j * 7, none⟩), .int .i64 (k : Int), .agg #[.int .i64 e.kind, .int .i64 e.th, .bool e.rd, .int .i64 e.ct]] W (NoteAft base g cap k (out.set j (noteP k (out.getD j s0) e)) (noteB (out.getD j s0) e) W) := by
  obtain ⟨hg, c3, c4, c5, c6, hf⟩ := hr.cells hj
  have f3 := hf (j * 7 + 3)
  have f4 := hf (j * 7 + 4)
  have f5 := hf (j * 7 + 5)
  have f6 := hf (j * 7 + 6)
  have HR := Lib.hid hr
  clear hr hf
  by_cases h1 : e.kind = 2
  · have K2 := Lib.hid (ibeq h1)
    have K3 : Hid ((e.kind == 3) = false) := Lib.hid (ibeq_no (by omega))
    have K4 : Hid ((e.kind == 4) = false) := Lib.hid (ibeq_no (by omega))
    by_cases h2 : (out.getD j s0).en < 0
    · have HB := Lib.hid ((noteB_iff (out.getD j s0) e).2 (by omega))
      have HD := Lib.hid (show ∀ w, SRow base g cap out w → SRow base g cap (out.set j (noteP k (out.getD j s0) e)) ((w.setCell ⟨g, j * 7 + 3, none⟩ (.int .i64 (k : Int))).setCell ⟨g, j * 7 + 6, none⟩ (.int .i64 e.ct)) from fun w hw => by
        have a1 := hw.put (s := { out.getD j s0 with en := k }) (i := 3) (u := .int .i64 (k : Int)) hj (by omega) rfl
        have a2 := a1.put (j := j) (s := { out.getD j s0 with en := k, ct := e.ct }) (i := 6) (u := .int .i64 e.ct) (by rw [List.length_set]; exact hj) (by omega) (by rw [getD_set hj, if_pos rfl]; rfl)
        rw [List.set_set] at a2
        have : noteP k (out.getD j s0) e = { out.getD j s0 with en := k, ct := e.ct } := by unfold noteP; rw [if_pos ⟨h1, h2⟩]
        rw [this]
        exact a2)
      rw [HB.out]
      generalize out.set j (noteP k (out.getD j s0) e) = out' at *
      generalize out.getD j s0 = s at *
      have q2 := K2.out
      have q3 := K3.out
      have q4 := K4.out
      clear K2 K3 K4
      clear h1
      go_enter Tryz.func112, Tryz.ntmps112
      go_wp2_with fail
      go_region
      all_goals go_wp2_with fail
      all_goals go_ret
      all_goals exact ⟨rfl, (HD.out _ HR.out).alloc _, ((modHere (modHere (Mod.refl _ _) _) _).alloc _).drew⟩
    · have d2 := decide_eq_false h2
      have HB := Lib.hid (noteB_no (s := out.getD j s0) (e := e) (by omega))
      have HD := Lib.hid (show SRow base g cap (out.set j (noteP k (out.getD j s0) e)) W by rw [noteP_ne HB.out, set_self]; exact HR.out)
      rw [HB.out]
      generalize out.set j (noteP k (out.getD j s0) e) = out' at *
      generalize out.getD j s0 = s at *
      have q2 := K2.out
      have q3 := K3.out
      have q4 := K4.out
      clear K2 K3 K4
      go_enter Tryz.func112, Tryz.ntmps112
      go_wp2_with fail
      go_ret
      exact ⟨rfl, HD.out.alloc _, (Mod.refl _ _).alloc _⟩
  · have K2 := Lib.hid (ibeq_no h1)
    by_cases h3 : e.kind = 3
    · have K3 := Lib.hid (ibeq h3)
      have K4 : Hid ((e.kind == 4) = false) := Lib.hid (ibeq_no (by omega))
      by_cases h4 : 0 ≤ (out.getD j s0).en
      · by_cases h5 : (out.getD j s0).ex < 0
        · have HB := Lib.hid ((noteB_iff (out.getD j s0) e).2 (by omega))
          have HD := Lib.hid (show ∀ w, SRow base g cap out w → SRow base g cap (out.set j (noteP k (out.getD j s0) e)) (w.setCell ⟨g, j * 7 + 4, none⟩ (.int .i64 (k : Int))) from fun w hw => by
            have a1 := hw.put (s := { out.getD j s0 with ex := k }) (i := 4) (u := .int .i64 (k : Int)) hj (by omega) rfl
            have : noteP k (out.getD j s0) e = { out.getD j s0 with ex := k } := (by unfold noteP; rw [if_neg (by omega), if_pos ⟨h3, h4, h5⟩])
            rw [this]
            exact a1)
          rw [HB.out]
          generalize out.set j (noteP k (out.getD j s0) e) = out' at *
          generalize out.getD j s0 = s at *
          have q2 := K2.out
          have q3 := K3.out
          have q4 := K4.out
          clear K2 K3 K4
          go_enter Tryz.func112, Tryz.ntmps112
          go_wp2_with fail
          go_ret
          exact ⟨rfl, (HD.out _ HR.out).alloc _, (modHere (Mod.refl _ _) _).alloc _⟩
        · have d2 := decide_eq_false h5
          have HB := Lib.hid (noteB_no (s := out.getD j s0) (e := e) (by omega))
          have HD := Lib.hid (show SRow base g cap (out.set j (noteP k (out.getD j s0) e)) W by rw [noteP_ne HB.out, set_self]; exact HR.out)
          rw [HB.out]
          generalize out.set j (noteP k (out.getD j s0) e) = out' at *
          generalize out.getD j s0 = s at *
          have q2 := K2.out
          have q3 := K3.out
          have q4 := K4.out
          clear K2 K3 K4
          go_enter Tryz.func112, Tryz.ntmps112
          go_wp2_with fail
          go_ret
          exact ⟨rfl, HD.out.alloc _, (Mod.refl _ _).alloc _⟩
      · have d2 := decide_eq_false h4
        have HB := Lib.hid (noteB_no (s := out.getD j s0) (e := e) (by omega))
        have HD := Lib.hid (show SRow base g cap (out.set j (noteP k (out.getD j s0) e)) W by rw [noteP_ne HB.out, set_self]; exact HR.out)
        rw [HB.out]
        generalize out.set j (noteP k (out.getD j s0) e) = out' at *
        generalize out.getD j s0 = s at *
        have q2 := K2.out
        have q3 := K3.out
        have q4 := K4.out
        clear K2 K3 K4
        go_enter Tryz.func112, Tryz.ntmps112
        go_wp2_with fail
        go_ret
        exact ⟨rfl, HD.out.alloc _, (Mod.refl _ _).alloc _⟩
    · have K3 := Lib.hid (ibeq_no h3)
      by_cases h6 : e.kind = 4
      · have K4 := Lib.hid (ibeq h6)
        by_cases h5 : 0 ≤ (out.getD j s0).ex
        · have HB := Lib.hid ((noteB_iff (out.getD j s0) e).2 (by omega))
          have HD := Lib.hid (show ∀ w, SRow base g cap out w → SRow base g cap (out.set j (noteP k (out.getD j s0) e)) (w.setCell ⟨g, j * 7 + 5, none⟩ (.int .i64 (k : Int))) from fun w hw => by
            have a1 := hw.put (s := { out.getD j s0 with re := k }) (i := 5) (u := .int .i64 (k : Int)) hj (by omega) rfl
            have : noteP k (out.getD j s0) e = { out.getD j s0 with re := k } := (by unfold noteP; rw [if_neg (by omega), if_neg (by omega), if_pos ⟨h6, h5⟩])
            rw [this]
            exact a1)
          rw [HB.out]
          generalize out.set j (noteP k (out.getD j s0) e) = out' at *
          generalize out.getD j s0 = s at *
          have q2 := K2.out
          have q3 := K3.out
          have q4 := K4.out
          clear K2 K3 K4
          go_enter Tryz.func112, Tryz.ntmps112
          go_wp2_with fail
          go_ret
          exact ⟨rfl, (HD.out _ HR.out).alloc _, (modHere (Mod.refl _ _) _).alloc _⟩
        · have d2 := decide_eq_false h5
          have HB := Lib.hid (noteB_no (s := out.getD j s0) (e := e) (by omega))
          have HD := Lib.hid (show SRow base g cap (out.set j (noteP k (out.getD j s0) e)) W by rw [noteP_ne HB.out, set_self]; exact HR.out)
          rw [HB.out]
          generalize out.set j (noteP k (out.getD j s0) e) = out' at *
          generalize out.getD j s0 = s at *
          have q2 := K2.out
          have q3 := K3.out
          have q4 := K4.out
          clear K2 K3 K4
          go_enter Tryz.func112, Tryz.ntmps112
          go_wp2_with fail
          go_ret
          exact ⟨rfl, HD.out.alloc _, (Mod.refl _ _).alloc _⟩
      · have K4 := Lib.hid (ibeq_no h6)
        have HB := Lib.hid (noteB_no (s := out.getD j s0) (e := e) (by omega))
        have HD := Lib.hid (show SRow base g cap (out.set j (noteP k (out.getD j s0) e)) W by rw [noteP_ne HB.out, set_self]; exact HR.out)
        rw [HB.out]
        generalize out.set j (noteP k (out.getD j s0) e) = out' at *
        generalize out.getD j s0 = s at *
        have q2 := K2.out
        have q3 := K3.out
        have q4 := K4.out
        clear K2 K3 K4
        go_enter Tryz.func112, Tryz.ntmps112
        go_wp2_with fail
        go_ret
        exact ⟨rfl, HD.out.alloc _, (Mod.refl _ _).alloc _⟩
end Go.Proofs.YthffhhgaeolpgaaGreat.Sp

/- The stays that are under way, as a map from threads: the plain law. -/
namespace Go.Proofs.YthffhhgaeolpgaaGreat.Sp
open Go.RowKit Go.Maps
abbrev kI (t : Int) : Lit := .int .i64 t
def MapR (D : DataW Unit) (out : List St) : Prop :=
  IsMap D ∧ ∀ t, Maps.has D (kI t) = out.any (isO t) ∧ ∀ i, i < out.length → isO t (out.getD i s0) = true → ∀ z, D.atKey (kI t) z = .lit (.int .i64 (i : Int))
theorem any_iff (f : St → Bool) (out : List St) : out.any f = true ↔ ∃ i, i < out.length ∧ f (out.getD i s0) = true := by
  rw [List.any_eq_true]
  constructor
  · rintro ⟨s, hs, h⟩
    obtain ⟨i, hi, rfl⟩ := List.getElem_of_mem hs
    exact ⟨i, hi, by rw [List.getD_eq_getElem?_getD, List.getElem?_eq_getElem hi]; exact h⟩
  · rintro ⟨i, hi, h⟩
    exact ⟨_, getD_mem hi, h⟩
theorem mapR_nil : MapR (.map []) [] := ⟨isMap_empty, fun t => ⟨rfl, fun i hi => absurd hi (Nat.not_lt_zero _)⟩⟩
theorem MapR.only {D : DataW Unit} {out : List St} (h : MapR D out) {t : Int} {i j : Nat} (hi : i < out.length) (hj : j < out.length) (h1 : isO t (out.getD i s0) = true) (h2 : isO t (out.getD j s0) = true) : i = j := by
  have a := (h.2 t).2 i hi h1 (.map [])
  have b := (h.2 t).2 j hj h2 (.map [])
  rw [a] at b
  have b' : (i : Int) = (j : Int) := by simpa using b
  omega
theorem getD_app {out : List St} {s : St} {i : Nat} (h : i < out.length) : (out ++ [s]).getD i s0 = out.getD i s0 := by
  rw [List.getD_eq_getElem?_getD, List.getD_eq_getElem?_getD, List.getElem?_append_left h]
theorem getD_app_end {out : List St} {s : St} : (out ++ [s]).getD out.length s0 = s := by
  rw [List.getD_eq_getElem?_getD, List.getElem?_append_right (Nat.le_refl _)]
  simp
theorem kI_ne {a b : Int} (h : a ≠ b) : kI a ≠ kI b := by
  intro e
  injection e with _ e
  exact h e
theorem isK_kI (t : Int) : WideAt.IsKeyLit (kI t) := by simp [WideAt.IsKeyLit]
theorem MapR.new {D : DataW Unit} {out : List St} (h : MapR D out) {s : St} (hr : s.re < 0) (ho : out.any (isO s.th) = false) : MapR (D.put (kI s.th) (.lit (.int .i64 (out.length : Int)))) (out ++ [s]) := by
  refine ⟨h.1.put _ _, fun t => ?_⟩
  by_cases e : t = s.th
  · subst e
    refine ⟨?_, fun i hi h1 z => ?_⟩
    · rw [has_put_same h.1 (isK_kI _)]
      simp [isO, hr]
    · rw [atKey_put_same h.1 (isK_kI _)]
      by_cases hl : i < out.length
      · rw [getD_app hl] at h1
        have := (any_iff (isO s.th) out).2 ⟨i, hl, h1⟩
        rw [ho] at this
        cases this
      · simp at hi
        rw [show i = out.length by omega]
  · refine ⟨?_, fun i hi h1 z => ?_⟩
    · rw [has_put_other (kI_ne e), (h.2 t).1]
      simp [isO, fun x => e (Eq.symm x)]
      intro x; exact absurd x.symm e
    · rw [atKey_put_other (kI_ne e)]
      by_cases hl : i < out.length
      · rw [getD_app hl] at h1
        exact (h.2 t).2 i hl h1 z
      · simp at hi
        rw [show i = out.length by omega, getD_app_end] at h1
        unfold isO at h1
        rw [Bool.and_eq_true, decide_eq_true_eq] at h1
        exact absurd h1.1.symm e
theorem any_set {out : List St} {j : Nat} {s : St} (hj : j < out.length) (f : St → Bool) (h : f s = f (out.getD j s0)) : (out.set j s).any f = out.any f := by
  rw [Bool.eq_iff_iff, any_iff, any_iff]
  constructor
  · rintro ⟨i, hi, he⟩
    rw [List.length_set] at hi
    rw [getD_set hj] at he
    by_cases e : i = j
    · subst e
      rw [if_pos rfl, h] at he
      exact ⟨i, hi, he⟩
    · rw [if_neg e] at he
      exact ⟨i, hi, he⟩
  · rintro ⟨i, hi, he⟩
    refine ⟨i, by rw [List.length_set]; exact hi, ?_⟩
    rw [getD_set hj]
    by_cases e : i = j
    · subst e
      rw [if_pos rfl, h]
      exact he
    · rw [if_neg e]
      exact he
theorem MapR.set {D : DataW Unit} {out : List St} (h : MapR D out) {j : Nat} {s : St} (hj : j < out.length) (he : ∀ t, isO t s = isO t (out.getD j s0)) : MapR D (out.set j s) := by
  refine ⟨h.1, fun t => ⟨by rw [(h.2 t).1, any_set hj _ (he t)], fun i hi h1 z => ?_⟩⟩
  rw [List.length_set] at hi
  rw [getD_set hj] at h1
  by_cases e : i = j
  · subst e
    rw [if_pos rfl, he] at h1
    exact (h.2 t).2 i hi h1 z
  · rw [if_neg e] at h1
    exact (h.2 t).2 i hi h1 z
theorem MapR.close {D : DataW Unit} {out : List St} (h : MapR D out) {j : Nat} {s : St} {t : Int} (hj : j < out.length) (ho : isO t (out.getD j s0) = true) (hr : ¬ s.re < 0) : MapR (D.del (kI t)) (out.set j s) := by
  have hs : ∀ u, isO u s = false := fun u => by unfold isO; rw [decide_eq_false hr, Bool.and_false]
  refine ⟨h.1.del _, fun u => ?_⟩
  have hany : ∀ i, i < out.length → isO u ((out.set j s).getD i s0) = true → i ≠ j ∧ isO u (out.getD i s0) = true := fun i hi h1 => by
    rw [getD_set hj] at h1
    by_cases e : i = j
    · subst e
      rw [if_pos rfl, hs] at h1
      cases h1
    · rw [if_neg e] at h1
      exact ⟨e, h1⟩
  by_cases e : u = t
  · subst e
    have hno : ∀ i, i < out.length → isO u ((out.set j s).getD i s0) = true → False := fun i hi h1 => by
      obtain ⟨a, b⟩ := hany i hi h1
      exact a (h.only hi hj b ho)
    refine ⟨?_, fun i hi h1 => by rw [List.length_set] at hi; exact (hno i hi h1).elim⟩
    rw [has_del_same]
    cases hx : (out.set j s).any (isO u) with
    | false => rfl
    | true =>
      obtain ⟨i, hi, h1⟩ := (any_iff _ _).1 hx
      rw [List.length_set] at hi
      exact (hno i hi h1).elim
  · refine ⟨?_, fun i hi h1 z => ?_⟩
    · rw [has_del_other (kI_ne e), (h.2 u).1, Bool.eq_iff_iff, any_iff, any_iff]
      constructor
      · rintro ⟨i, hi, h1⟩
        refine ⟨i, by rw [List.length_set]; exact hi, ?_⟩
        rw [getD_set hj]
        by_cases e2 : i = j
        · subst e2
          unfold isO at h1 ho
          rw [Bool.and_eq_true, decide_eq_true_eq] at h1 ho
          exact absurd (h1.1.symm.trans ho.1) e
        · rw [if_neg e2]
          exact h1
      · rintro ⟨i, hi, h1⟩
        rw [List.length_set] at hi
        exact ⟨i, hi, (hany i hi h1).2⟩
    · rw [List.length_set] at hi
      obtain ⟨_, b⟩ := hany i hi h1
      rw [atKey_del_other (kI_ne e)]
      exact (h.2 u).2 i hi b z
theorem MapR.map {D : DataW Unit} {out : List St} (h : MapR D out) {j k : Nat} {e : E} (hj : j < out.length) (ho : isO e.th (out.getD j s0) = true) : (out.map fun s => if isO e.th s then noteP k s e else s) = out.set j (noteP k (out.getD j s0) e) := by
  apply List.ext_getElem?
  intro i
  rw [List.getElem?_map, List.getElem?_set]
  by_cases hi : i < out.length
  · rw [List.getElem?_eq_getElem hi]
    have e1 : out.getD i s0 = out[i] := by rw [List.getD_eq_getElem?_getD, List.getElem?_eq_getElem hi]; rfl
    by_cases e2 : j = i
    · subst e2
      rw [if_pos rfl, if_pos hj]
      rw [e1] at ho ⊢
      simp [ho]
    · rw [if_neg e2]
      have : ¬ isO e.th out[i] = true := fun hx => e2 (h.only hj hi ho (by rw [e1]; exact hx))
      simp [this]
  · rw [List.getElem?_eq_none (by omega)]
    split
    · rename_i e2
      subst e2
      exact absurd hj hi
    · rfl
theorem step_hit {D : DataW Unit} {out : List St} (h : MapR D out) {j k : Nat} {e : E} (hj : j < out.length) (ho : isO e.th (out.getD j s0) = true) : stepP out k e = out.set j (noteP k (out.getD j s0) e) := by
  unfold stepP
  rw [if_pos ((any_iff _ _).2 ⟨j, hj, ho⟩), h.map hj ho]
theorem step_new {out : List St} {k : Nat} {e : E} (h : out.any (isO e.th) = false) (h1 : e.kind = 1) : stepP out k e = out ++ [⟨e.th, e.rd, k, -1, -1, -1, 0⟩] := by
  unfold stepP
  rw [h, if_neg (by simp), if_pos h1]
theorem step_none {out : List St} {k : Nat} {e : E} (h : out.any (isO e.th) = false) (h1 : ¬ e.kind = 1) : stepP out k e = out := by
  unfold stepP
  rw [h, if_neg (by simp), if_neg h1]
theorem note_open {k : Nat} {s : St} {e : E} (h : ¬ (e.kind = 4 ∧ 0 ≤ s.ex)) (t : Int) : isO t (noteP k s e) = isO t s := by
  unfold noteP
  split
  · rfl
  · split
    · rfl
    · first | rfl | rw [if_neg h]
theorem note_end {k : Nat} {s : St} {e : E} (h : e.kind = 4) (h2 : 0 ≤ s.ex) : noteB s e = true ∧ ¬ (noteP k s e).re < 0 := by
  unfold noteB noteP
  rw [if_neg (by omega), if_neg (by omega), if_pos ⟨h, h2⟩]
  exact ⟨by simp [h, h2], by simp⟩
theorem stepP_len (out : List St) (k : Nat) (e : E) : (stepP out k e).length ≤ out.length + 1 := by
  unfold stepP
  split
  · rw [List.length_map]; omega
  · split
    · rw [List.length_append]; simp
    · omega
theorem outP_len (l : List E) : ∀ k, (outP l k).length ≤ k
  | 0 => Nat.le_refl _
  | k + 1 => by
    have := outP_len l k
    have := stepP_len (outP l k) k (l.getD k e0)
    show (stepP (outP l k) k (l.getD k e0)).length ≤ _
    omega
end Go.Proofs.YthffhhgaeolpgaaGreat.Sp

