/- Merged texts: Rar1, Rar2, Alk, Ata, Keep, Spot, LokP, Same, LokW. -/
import Derived.Test.YthffhhgaeolpgaaGreatGq1
import Derived.Maps.AppendAt
set_option linter.unusedVariables false
/- The reference's arena: in memory; New, op, At and the ops. -/
namespace Go.Proofs.YthffhhgaeolpgaaGreat.Ara
open Go.RowKit

structure Rf where
  room : Int
  ws : List Int
  ops : Nat
  kind : Int
  pos : Int
  wrote : Bool
def rfCells (v : Value) (ρ : Rf) : Array Value := #[.int .i64 ρ.room, v, .int .i64 ρ.ops, .int .i64 ρ.kind, .int .i64 ρ.pos, .bool ρ.wrote]
def RfAt (W : World) (g base : Nat) (ρ : Rf) : Prop :=
  g < base ∧ base ≤ W.heap.size ∧ ρ.ws.length ≤ 4096 ∧ (0 ≤ ρ.room ∧ ρ.room ≤ 4096) ∧ ρ.ops ≤ 1000000 ∧ ∃ v, W.heap[g]? = some (.cells (rfCells v ρ) 48 (0, 0)) ∧ W.ownsRow base 3 1 v ρ.ws.length (ρ.ws.map vI)

theorem RfAt.drewN {W : World} {g base : Nat} {ρ : Rf} (k : RfAt W g base ρ) (n : Nat) : RfAt (W.drewN n) g base ρ := k
theorem RfAt.mod {S : List Nat} {W W' : World} {g base : Nat} {ρ : Rf} (k : RfAt W g base ρ) (hm : Mod S W W') (hS : ∀ x ∈ S, x < base ∧ x ≠ g) : RfAt W' g base ρ := by
  obtain ⟨h1, hz, h2, h3, h4, v, h5, h6⟩ := k
  exact ⟨h1, Nat.le_trans hz hm.size, h2, h3, h4, v, hm.blk h5 (fun e => (hS g e).2 rfl), own_mod h6 hm (fun x hx => (hS x hx).1)⟩
theorem RfAt.step {W W' : World} {g base : Nat} {ρ : Rf} (k : RfAt W g base ρ) (hb : Below W.heap.size W W') : RfAt W' g base ρ := k.mod (S := []) (Mod.of_below hb) (by simp)
theorem RfAt.slot {W : World} {g base : Nat} {ρ : Rf} (k : RfAt W g base ρ) : ∃ A c, W.cell? ⟨g, 0, none⟩ = some (.int .i64 ρ.room) ∧ W.cell? ⟨g, 1, none⟩ = some (.slice A ρ.ws.length c) ∧ W.cell? ⟨g, 2, none⟩ = some (.int .i64 ρ.ops) ∧
    W.cell? ⟨g, 3, none⟩ = some (.int .i64 ρ.kind) ∧ W.cell? ⟨g, 4, none⟩ = some (.int .i64 ρ.pos) ∧ W.cell? ⟨g, 5, none⟩ = some (.bool ρ.wrote) ∧ (∀ i, W.frozen? ⟨g, i, none⟩ = false) ∧
    ρ.ws.length ≤ c ∧ c ≤ maxLen ∧ W.ownsRow base 3 1 (.slice A ρ.ws.length c) ρ.ws.length (ρ.ws.map vI) := by
  obtain ⟨h1, _, h2, h3, h4, v, h5, h6⟩ := k
  obtain ⟨A, c, rfl, h7, h8, _⟩ := own_slice h6
  exact ⟨A, c, blk_cell h5 0 (by simp [rfCells]), blk_cell h5 1 (by simp [rfCells]), blk_cell h5 2 (by simp [rfCells]), blk_cell h5 3 (by simp [rfCells]), blk_cell h5 4 (by simp [rfCells]), blk_cell h5 5 (by simp [rfCells]), blk_free h5, h7, h8, h6⟩
def IntRow (w : World) (k : Nat) : Prop := ∃ cur, w.heap[k]? = some (.cells cur 3 (0, 0))
structure RMod (base g : Nat) (a w : World) : Prop where
  os : w.os = a.os
  tape : w.tape = a.tape
  output : w.output = a.output
  size : a.heap.size ≤ w.heap.size
  block : ∀ k, k < a.heap.size → k ≠ g → (k < base ∨ ¬ IntRow a k) → w.heap[k]? = a.heap[k]?
theorem RMod.refl (base g : Nat) (w : World) : RMod base g w w := ⟨rfl, rfl, rfl, Nat.le_refl _, fun _ _ _ _ => rfl⟩
theorem RMod.trans {base g : Nat} {a b c : World} (h : RMod base g a b) (k : RMod base g b c) : RMod base g a c :=
  ⟨k.os.trans h.os, k.tape.trans h.tape, k.output.trans h.output, Nat.le_trans h.size k.size, fun i hi hn hr => by
    have e := h.block i hi hn hr
    refine (k.block i (Nat.lt_of_lt_of_le hi h.size) hn ?_).trans e
    rcases hr with hr | hr
    · exact .inl hr
    · right
      rintro ⟨cur, hc⟩
      exact hr ⟨cur, e ▸ hc⟩⟩
theorem RMod.of_mod {base g : Nat} {a w : World} (h : Mod [g] a w) : RMod base g a w := ⟨h.os, h.tape, h.output, h.size, fun k hk hn _ => h.block k hk (by simpa using hn)⟩
theorem RMod.drewN {base g : Nat} {a w : World} (h : RMod base g a w) (n : Nat) : RMod base g a (w.drewN n) := ⟨h.os, h.tape, h.output, h.size, h.block⟩
theorem RMod.setRow {base g : Nat} {a w : World} (h : RMod base g a w) {p : Addr} (hb : base ≤ p.block) (hr : IntRow w p.block) (u : Value) : RMod base g a (w.setCell p u) :=
  h.trans ⟨rfl, rfl, rfl, by simp [World.setCell], fun k hk hn hc => Below.heap_setCell _ _ _ _ (fun e => by
    subst e
    rcases hc with hc | hc
    · omega
    · exact hc hr)⟩
theorem RMod.grown {base g : Nat} {a w w' : World} {v : Value} {n : Nat} {xs : List Value} (h : RMod base g a w) (hown : w.ownsRow base 3 1 v n xs) (hg : w.grownBy w' v.ownBlock) : RMod base g a w' :=
  h.trans ⟨hg.os, hg.tape, hg.output, hg.size, fun k hk hn hc => hg.block k hk (fun e => by
    rcases hown.2 with ⟨rfl, _⟩ | ⟨b, cap, cur, rfl, hb, hbk, _⟩
    · cases e
    · simp [Value.ownBlock] at e
      subst e
      rcases hc with hc | hc
      · omega
      · exact hc ⟨cur, hbk⟩)⟩
theorem RMod.upd {base g : Nat} {w w' : World} (h : RMod base g w w') (hB : base ≤ w.heap.size) : Upd base [g] w w' :=
  ⟨h.os, h.tape, h.output, h.size, fun k hk hn => h.block k (by omega) (by simpa using hn) (.inl hk)⟩
theorem RMod.blk {base g : Nat} {w w' : World} (h : RMod base g w w') {x : Nat} {cs : Array Value} {T : TypeId} (hx : w.heap[x]? = some (.cells cs T (0, 0))) (hT : T ≠ 3) (hg : x ≠ g) : w'.heap[x]? = some (.cells cs T (0, 0)) := by
  refine (h.block x (lt_of_blk hx) hg (.inr ?_)).trans hx
  rintro ⟨cur, hc⟩
  rw [hx] at hc
  injection hc with hc
  injection hc with h1 h2
  exact hT h2
theorem RfAt.word {W : World} {g base : Nat} {ρ : Rf} (k : RfAt W g base ρ) (i : Nat) (hi : i < ρ.ws.length) : ∃ b c, W.cell? ⟨g, 1, none⟩ = some (.slice (some ⟨b, 0, none⟩) ρ.ws.length c) ∧
    W.cell? ⟨b, i, none⟩ = some (.int .i64 (ρ.ws.getD i 0)) ∧ W.frozen? ⟨b, i, none⟩ = false ∧ base ≤ b ∧ b ≠ g ∧ IntRow W b ∧
    (∀ x : Int, RfAt (W.setCell ⟨b, i, none⟩ (.int .i64 x)) g base { ρ with ws := ρ.ws.set i x }) := by
  have k0 := k
  obtain ⟨h1, hz, h2, h3, h4, v, h5, h6⟩ := k
  have h66 := h6.2
  rcases h66 with ⟨rfl, hn⟩ | ⟨b, cap, cur, rfl, hb, rest⟩
  · omega
  · have hc := h6.cellAt i (by omega)
    refine ⟨b, cap, blk_cell h5 1 (by simp [rfCells]), ?_, h6.frozenAt i, hb, by omega, ⟨cur, rest.1⟩, fun x => ?_⟩
    · rw [hc]
      simp [vI, hi]
    · have hst := (h6.stored i (.int .i64 x)).1
      have e1 := blk_other (p := ⟨b, i, none⟩) h5 (by show g ≠ b; omega) (.int .i64 x)
      refine ⟨h1, by simpa [World.setCell] using hz, by simpa using h2, h3, h4, .slice (some ⟨b, 0, none⟩) (ρ.ws.set i x).length cap, ?_, ?_⟩
      · rw [List.length_set]
        exact e1
      · simpa [List.map_set, vI] using hst

def Rf.has (ρ : Rf) (p : Int) : Bool := decide (1 ≤ p) && decide (p ≤ ρ.ws.length)
def Rf.get (ρ : Rf) (p : Int) : Int := if ρ.has p then ρ.ws.getD (p - 1).toNat 0 else 0
def Rf.did (ρ : Rf) (kind pos : Int) (wrote : Bool) (ws : List Int) : Rf := ⟨ρ.room, ws, ρ.ops + 1, kind, pos, wrote⟩
def Rf.op (ρ : Rf) (kind p : Int) (wrote : Bool) (v : Int) : Rf := if ρ.has p then ρ.did kind p wrote (if wrote then ρ.ws.set (p - 1).toNat v else ρ.ws) else ρ
theorem Rf.cases (ρ : Rf) (p : Int) : (ρ.has p = false ∧ (p < 1 ∨ (ρ.ws.length : Int) < p)) ∨ ∃ k : Nat, k < ρ.ws.length ∧ p = (k : Int) + 1 := by
  cases h : ρ.has p
  · simp [Rf.has] at h
    exact .inl ⟨rfl, by omega⟩
  · right
    simp [Rf.has] at h
    exact ⟨(p - 1).toNat, by omega, by omega⟩
theorem Rf.has_in {ρ : Rf} {k : Nat} (h : k < ρ.ws.length) : ρ.has ((k : Int) + 1) = true := by simp [Rf.has]; omega
theorem Rf.get_in {ρ : Rf} {k : Nat} (h : k < ρ.ws.length) : ρ.get ((k : Int) + 1) = ρ.ws.getD k 0 := by
  unfold Rf.get
  rw [if_pos (Rf.has_in h), show ((k : Int) + 1 - 1).toNat = k by omega]
theorem Rf.op_in {ρ : Rf} {k : Nat} (h : k < ρ.ws.length) (kind : Int) (wrote : Bool) (v : Int) : ρ.op kind ((k : Int) + 1) wrote v = ρ.did kind ((k : Int) + 1) wrote (if wrote then ρ.ws.set k v else ρ.ws) := by
  unfold Rf.op
  rw [if_pos (Rf.has_in h), show ((k : Int) + 1 - 1).toNat = k by omega]

theorem RfAt.note {W : World} {g base : Nat} {ρ : Rf} (k : RfAt W g base ρ) (ho : ρ.ops < 1000000) (kind pos : Int) (wrote : Bool) :
    RfAt ((((W.setCell ⟨g, 2, none⟩ (.int .i64 ((ρ.ops : Int) + 1))).setCell ⟨g, 3, none⟩ (.int .i64 kind)).setCell ⟨g, 4, none⟩ (.int .i64 pos)).setCell ⟨g, 5, none⟩ (.bool wrote)) g base (ρ.did kind pos wrote ρ.ws) := by
  obtain ⟨h1, hz, h2, h3, h4, v, h5, h6⟩ := k
  refine ⟨h1, by simpa [World.setCell] using hz, h2, h3, by show ρ.ops + 1 ≤ 1000000; omega, v, ?_, ?_⟩
  · rw [blk_set (blk_set (blk_set (blk_set h5 _ _) _ _) _ _)]
    rfl
  · exact ownsRow_setCell_below (ownsRow_setCell_below (ownsRow_setCell_below (ownsRow_setCell_below h6 h1 _) h1 _) h1 _) h1 _

section
variable (g base : Nat) (ρ : Rf) (w : World) (H : RfAt w g base ρ) (p : Int)
include H
set_option maxRecDepth 100000 in
theorem rat_any : Calls Tryz.prog 123 #[.pointer (some ⟨g, 0, none⟩), .int .i64 p] w fun e w' => e = .returned (.int .i64 (ρ.get p)) ∧ w' = w := by
  obtain ⟨A, c0, _, s1, _, _, _, _, _, hc1, hc2, _⟩ := H.slot
  have hl := H.2.2.1
  rcases ρ.cases p with ⟨hh, hp⟩ | ⟨k, hk, rfl⟩
  · have hg : ρ.get p = 0 := by unfold Rf.get; rw [if_neg (by simp [hh])]
    rw [hg]
    clear H hh hg
    by_cases h0 : p < 1
    · go_enter Tryz.func123, Tryz.ntmps123
      go_wp2_with fail
      go_ret
      exact ⟨rfl, rfl⟩
    · have h1 : (ρ.ws.length : Int) < p := by omega
      go_enter Tryz.func123, Tryz.ntmps123
      go_wp2_with fail
      go_ret
      exact ⟨rfl, rfl⟩
  · rw [Rf.get_in hk]
    clear s1
    obtain ⟨b, c, g1, hc, fz, _, _, _, _⟩ := H.word k hk
    have t1 : (k : Int) + 1 ≤ (ρ.ws.length : Int) := by omega
    have t2 : (1 : Int) ≤ (k : Int) + 1 := by omega
    have t3 : (k : Int) < (ρ.ws.length : Int) := by omega
    have t5 : (k : Int) + 1 ≤ 4096 := by omega
    generalize ρ.ws.getD k 0 = x at *
    clear H
    go_enter Tryz.func123, Tryz.ntmps123
    go_wp2_with fail
    go_ret
    exact ⟨rfl, rfl⟩
set_option maxHeartbeats 1000000 in
set_option maxRecDepth 100000 in
theorem rop_any (ho : ρ.ops < 1000000) (kind v : Int) (wrote : Bool) : Calls Tryz.prog 116 #[.pointer (some ⟨g, 0, none⟩), .int .i64 kind, .int .i64 p, .int .i64 v, .bool wrote] w fun e w' => e = .returned (.tuple #[.int .i64 (ρ.get p), .bool (ρ.has p)]) ∧ RfAt w' g base (ρ.op kind p wrote v) ∧ RMod base g w w' := by
  obtain ⟨A, c0, _, s1, g2, g3, g4, g5, gf, hc1, hc2, _⟩ := H.slot
  have hl := H.2.2.1
  have hbz := H.2.1
  rcases ρ.cases p with ⟨hh, hp⟩ | ⟨k, hk, rfl⟩
  · have hg : ρ.get p = 0 := by unfold Rf.get; rw [if_neg (by simp [hh])]
    have hq : ρ.op kind p wrote v = ρ := by unfold Rf.op; rw [if_neg (by simp [hh])]
    rw [hg, hh, hq]
    have HH := Lib.hid H
    clear H hh hg hq gf
    by_cases h0 : p < 1
    · go_enter Tryz.func116, Tryz.ntmps116
      go_wp2_with fail
      go_ret2
      exact ⟨rfl, HH.out, RMod.of_mod (Mod.refl _ _)⟩
    · have h1 : (ρ.ws.length : Int) < p := by omega
      go_enter Tryz.func116, Tryz.ntmps116
      go_wp2_with fail
      go_ret2
      exact ⟨rfl, HH.out, RMod.of_mod (Mod.refl _ _)⟩
  · rw [Rf.get_in hk, Rf.has_in hk, Rf.op_in hk]
    clear s1
    obtain ⟨b, c, g1, hc, fz, hb1, hb2, hir, _⟩ := H.word k hk
    have HI := Lib.hid hir
    clear hir
    have HN := Lib.hid (H.note ho kind ((k : Int) + 1) wrote)
    have t1 : (k : Int) + 1 ≤ (ρ.ws.length : Int) := by omega
    have t2 : (1 : Int) ≤ (k : Int) + 1 := by omega
    have t3 : (k : Int) < (ρ.ws.length : Int) := by omega
    have t5 : (k : Int) + 1 ≤ 4096 := by omega
    have t6 : (ρ.ops : Int) ≤ 1000000 := by omega
    have t7 : (0 : Int) ≤ (ρ.ops : Int) := by omega
    have f2 := gf 2
    have f3 := gf 3
    have f4 := gf 4
    have f5 := gf 5
    have hb3 : ¬ g = b := fun e => hb2 e.symm
    have HG := Lib.hid (show ρ.ws.getD k 0 = ρ.ws.getD k 0 from rfl)
    clear gf H ho
    cases wrote
    · generalize ρ.ws.getD k 0 = x at *
      go_enter Tryz.func116, Tryz.ntmps116
      go_wp2_with fail
      go_ret2
      exact ⟨rfl, HN.out, RMod.of_mod (((((Mod.refl _ _).setCell (by simp) _).setCell (by simp) _).setCell (by simp) _).setCell (by simp) _)⟩
    · obtain ⟨b', c', q1, _, _, _, _, _, hput⟩ := HN.out.word k hk
      have hbb : b' = b := by
        have e1 : (((((w.setCell ⟨g, 2, none⟩ (.int .i64 ((ρ.ops : Int) + 1))).setCell ⟨g, 3, none⟩ (.int .i64 kind)).setCell ⟨g, 4, none⟩ (.int .i64 ((k : Int) + 1))).setCell ⟨g, 5, none⟩ (.bool true))).cell? ⟨g, 1, none⟩ = w.cell? ⟨g, 1, none⟩ := by
          rw [World.cell?_setCell_other, World.cell?_setCell_other, World.cell?_setCell_other, World.cell?_setCell_other] <;> simp
        rw [e1, g1] at q1
        simp at q1
        first | exact q1.2.symm | exact q1.1.symm | exact q1.1.1.symm | omega
      subst hbb
      have HP := Lib.hid (hput v)
      clear hput q1
      generalize ρ.ws.getD k 0 = x at *
      go_enter Tryz.func116, Tryz.ntmps116
      go_wp2_with fail
      go_ret2
      exact ⟨rfl, HP.out, (RMod.of_mod (((((Mod.refl _ _).setCell (by simp) _).setCell (by simp) _).setCell (by simp) _).setCell (by simp) _)).setRow hb1 (by obtain ⟨cur, hc⟩ := HI.out; exact ⟨cur, blk_other (blk_other (blk_other (blk_other hc hb2 _) hb2 _) hb2 _) hb2 _⟩) _⟩
end
end Go.Proofs.YthffhhgaeolpgaaGreat.Ara

/- The reference's arena: New, Take, Load .. Add. -/
namespace Go.Proofs.YthffhhgaeolpgaaGreat.Ara
open Go.RowKit

theorem frame43 {a : Act} (h : a.tmps.size = 43) (hd : a.defers = []) : ∃ u : Nat → Value, a = { tmps := #[u 0, u 1, u 2, u 3, u 4, u 5, u 6, u 7, u 8, u 9, u 10, u 11, u 12, u 13, u 14, u 15, u 16, u 17, u 18, u 19, u 20, u 21, u 22, u 23, u 24, u 25, u 26, u 27, u 28, u 29, u 30, u 31, u 32, u 33, u 34, u 35, u 36, u 37, u 38, u 39, u 40, u 41, u 42], defers := [] } ∧ ∀ n, a.tmps.getD n undef = u n := by
  refine ⟨fun n => a.tmps.getD n undef, ?_, fun _ => rfl⟩
  have h1 := arr_lit a.tmps h
  cases a with
  | mk t d =>
    simp only at hd h1
    subst hd
    congr 1
theorem rnew_any (t : Int) (w : World) : Calls Tryz.prog 11 #[.int .i64 t] w fun e w' => e = .returned (.pointer (some ⟨w.heap.size, 0, none⟩)) ∧ RfAt w' w.heap.size (w.heap.size + 1) ⟨room t, [], 0, 0, 0, false⟩ ∧ w'.heap.size = w.heap.size + 1 ∧ Below w.heap.size w w' := by
  have hfin : ∀ c : Nat, c ≤ 4096 → Hid (RfAt (w.alloc (.cells #[.int .i64 c, .slice none 0 0, .int .i64 0, .int .i64 0, .int .i64 0, .bool false] 48)) w.heap.size (w.heap.size + 1) ⟨c, [], 0, 0, 0, false⟩ ∧
      (w.alloc (.cells #[.int .i64 c, .slice none 0 0, .int .i64 0, .int .i64 0, .int .i64 0, .bool false] 48)).heap.size = w.heap.size + 1 ∧ Below w.heap.size w (w.alloc (.cells #[.int .i64 c, .slice none 0 0, .int .i64 0, .int .i64 0, .int .i64 0, .bool false] 48))) := fun c hc =>
    Lib.hid ⟨⟨by omega, by simp, by simp, ⟨Int.natCast_nonneg c, by show (c : Int) ≤ 4096; omega⟩, by simp, .slice none 0 0, blk_new _ _, World.ownsRow_nil _ _ _ _⟩, by simp, below_new _ _⟩
  by_cases h0 : t < 0
  · rw [show room t = 0 by unfold room; rw [if_pos h0]]
    have hf := hfin 0 (by omega)
    clear hfin
    go_enter Tryz.func11, Tryz.ntmps11
    go_wp2_with fail
    go_ret
    exact ⟨rfl, hf.out⟩
  · by_cases h1 : 4096 < t
    · rw [show room t = 4096 by unfold room; rw [if_neg (by omega), if_pos h1]]
      have hf := hfin 4096 (by omega)
      clear hfin
      go_enter Tryz.func11, Tryz.ntmps11
      go_wp2_with fail
      go_ret
      exact ⟨rfl, hf.out⟩
    · obtain ⟨c, rfl⟩ := Int.eq_ofNat_of_zero_le (show 0 ≤ t by omega)
      rw [show room c = c by unfold room; rw [if_neg (by omega), if_neg h1]; omega]
      have hf := hfin c (by omega)
      clear hfin
      go_enter Tryz.func11, Tryz.ntmps11
      go_wp2_with fail
      go_ret
      exact ⟨rfl, hf.out⟩

def Rf.take (ρ : Rf) (n : Int) : (Int × Int) × Rf :=
  if n < 0 then ((0, 1), ρ) else if ρ.room - ρ.ws.length < n then ((0, 3), ρ) else (((ρ.ws.length : Int) + 1, 0), { ρ with ws := ρ.ws ++ List.replicate n.toNat 0 })
theorem RfAt.grow {W W3 : World} {g base : Nat} {ρ : Rf} {v : Value} (k : RfAt W g base ρ) (hb : Below base W W3) (hl : ρ.ws.length + 1 ≤ 4096) (hown : W3.ownsRow base 3 1 v (ρ.ws.length + 1) (ρ.ws.map vI ++ [.int .i64 0])) :
    RfAt (W3.setCell ⟨g, 1, none⟩ v) g base { ρ with ws := ρ.ws ++ [0] } := by
  obtain ⟨h1, hz, h2, h3, h4, v0, h5, h6⟩ := k
  refine ⟨h1, by have := hb.size; simp [World.setCell]; omega, by simpa using hl, h3, h4, v, ?_, ?_⟩
  · rw [blk_set ((hb.block g h1).trans h5)]
    rfl
  · have := ownsRow_setCell_below hown (a := ⟨g, 1, none⟩) h1 v
    simpa [vI] using this

def TkJ (g base : Nat) (ρ : Rf) (n : Nat) (w : World) (a : Act) (W : World) : Prop :=
  a.tmps.size = 43 ∧ a.defers = [] ∧ a.tmps.getD 0 undef = .pointer (some ⟨g, 0, none⟩) ∧ a.tmps.getD 1 undef = .int .i64 n ∧ a.tmps.getD 6 undef = .int .i64 ((ρ.ws.length : Int) + 1) ∧
    ∃ k : Nat, a.tmps.getD 7 undef = .int .i64 k ∧ k ≤ n ∧ RfAt W g base { ρ with ws := ρ.ws ++ List.replicate k 0 } ∧ RMod base g w W
set_option maxHeartbeats 1000000 in
set_option maxRecDepth 100000 in
theorem rtake_any (g base : Nat) (ρ : Rf) (w : World) (H : RfAt w g base ρ) (n : Int) : Calls Tryz.prog 85 #[.pointer (some ⟨g, 0, none⟩), .int .i64 n] w fun e w' => e = .returned (.tuple #[.int .i64 (ρ.take n).1.1, .int .i64 (ρ.take n).1.2]) ∧ RfAt w' g base (ρ.take n).2 ∧ RMod base g w w' := by
  unfold Rf.take
  have HH := Lib.hid H
  by_cases h0 : n < 0
  · rw [if_pos h0]
    clear H
    go_enter Tryz.func85, Tryz.ntmps85
    go_wp2_with fail
    go_ret2
    exact ⟨rfl, HH.out, RMod.of_mod (Mod.refl _ _)⟩
  rw [if_neg h0]
  obtain ⟨m, rfl⟩ := Int.eq_ofNat_of_zero_le (show 0 ≤ n by omega)
  obtain ⟨A, c, g0, g1, _, _, _, _, _, hc1, hc2, _⟩ := H.slot
  have hl := H.2.2.1
  have hr := H.2.2.2.1
  obtain ⟨hr1, hr2⟩ := hr
  have b0 : (ρ.ws.length : Int) ≤ 4096 := by omega
  clear H
  by_cases h1 : ρ.room - ρ.ws.length < (m : Int)
  · rw [if_pos h1]
    go_enter Tryz.func85, Tryz.ntmps85
    go_wp2_with fail
    go_quiet (fail)
    go_wp2_with fail
    go_ret2
    exact ⟨rfl, HH.out.drewN _, RMod.of_mod ((Mod.refl _ _).drewN _)⟩
  · rw [if_neg h1]
    have b2 : (m : Int) ≤ 4096 := by omega
    go_enter Tryz.func85, Tryz.ntmps85
    go_wp2_with fail
    go_quiet (fail)
    go_wp2_with fail
    refine wp_loop (TkJ g base ρ m w) (fun a' _ => m - (intOf (a'.tmps.getD 7 undef)).toNat) ?_ ?_
    · exact ⟨rfl, rfl, rfl, rfl, rfl, 0, rfl, Nat.zero_le _, by simpa using HH.out.drewN _, (RMod.refl _ _ _).drewN _⟩
    · clear g0 g1 HH hc1 hc2
      rintro a' W ⟨hsz, hdf, s0, s1, s6, k, s7, hk, hR, hu⟩
      obtain ⟨u, rfl, hu⟩ := frame43 hsz hdf
      rw [hu] at s0 s1 s6 s7
      simp only [s0, s1, s6, s7]
      clear hsz hdf s0 s1 s6 s7 hu
      by_cases hlt : k < m
      · have hln := Lib.hid (show (ρ.ws ++ List.replicate k (0 : Int)).length = ρ.ws.length + k by simp)
        have hsn := Lib.hid (show ρ.ws ++ List.replicate (k + 1) (0 : Int) = (ρ.ws ++ List.replicate k 0) ++ [0] by rw [List.replicate_succ', List.append_assoc])
        have hll : (ρ.ws ++ List.replicate k (0 : Int)).length + 1 ≤ 4096 := by rw [hln.out]; omega
        have hgb := hR.1
        have hbz := hR.2.1
        obtain ⟨A, c, _, q1, _, _, _, _, gf, _, _, hown⟩ := hR.slot
        simp only at q1 hown
        have HR := Lib.hid hR
        have HU := Lib.hid hu
        have f1 := gf 1
        have hownH := Lib.hid hown
        clear hR hu gf
        generalize ρ.ws ++ List.replicate k (0 : Int) = ws at *
        go_wp2_with (at_builtin; refine wpList_append1 (.tmp 37) (.tmp 38) 43 3 _ 1 8 rfl rfl Tryz.underlying43 infoI rfl (by decide) base _ _ _ _ _ _ _ _ hown rfl rfl ?cg rfl ?d1 ?d2 ?d3 ?d4 ?ck; case' ck => intro v' W3 hown3 hb3 hgr; have q2 := (hb3.cell (p := ⟨g, 1, none⟩) hgb).trans q1; have f2 := (hb3.frozen (p := ⟨g, 1, none⟩) hgb).trans f1; obtain ⟨A3, c3, rfl, _, _, _⟩ := own_slice hown3)
        case cg => first | rfl | simp
        case d1 => simp [Value.oneCell']
        case d2 => simp only [maxLen]; omega
        case d3 => omega
        try (case d4 => exact hbz)
        have hf := HR.out.grow hb3 hll (by simpa using hown3)
        exact ⟨⟨rfl, rfl, rfl, rfl, rfl, k + 1, rfl, hlt, by rw [hsn.out]; exact hf, (HU.out.trans ((RMod.grown (RMod.refl _ _ _) hownH.out hgr).trans (RMod.of_mod ((Mod.refl _ _).setCell (by simp) _))))⟩, by simp [intOf]; omega⟩
      · obtain rfl : k = m := by omega
        have HR := Lib.hid hR
        go_wp2_with fail
        go_ret2
        exact ⟨rfl, by simpa using HR.out, hu⟩

section
variable (g base : Nat) (ρ : Rf) (w : World) (H : RfAt w g base ρ) (p : Int) (ho : ρ.ops < 1000000)
include H ho
theorem rload_any : Calls Tryz.prog 119 #[.pointer (some ⟨g, 0, none⟩), .int .i64 p] w fun e w' => e = .returned (.int .i64 (ρ.get p)) ∧ RfAt w' g base (ρ.op 1 p false 0) ∧ RMod base g w w' := by
  have HO := Lib.hid (rop_any g base ρ w H p ho 1 0 false)
  clear H ho
  go_enter Tryz.func119, Tryz.ntmps119
  go_wp2_with fail
  refine HO.out.mono ?_
  rintro e w1 ⟨rfl, h1, h2⟩
  go_wp2_with fail
  go_ret
  exact ⟨rfl, h1, h2⟩
theorem rstore_any (v : Int) : Calls Tryz.prog 87 #[.pointer (some ⟨g, 0, none⟩), .int .i64 p, .int .i64 v] w fun e w' => e = .returned (.tuple #[]) ∧ RfAt w' g base (ρ.op 2 p true v) ∧ RMod base g w w' := by
  have HO := Lib.hid (rop_any g base ρ w H p ho 2 v true)
  clear H ho
  go_enter Tryz.func87, Tryz.ntmps87
  go_wp2_with fail
  refine HO.out.mono ?_
  rintro e w1 ⟨rfl, h1, h2⟩
  go_wp2_with fail
  go_end0
  exact ⟨rfl, h1, h2⟩
theorem rswap_any (v : Int) : Calls Tryz.prog 121 #[.pointer (some ⟨g, 0, none⟩), .int .i64 p, .int .i64 v] w fun e w' => e = .returned (.int .i64 (ρ.get p)) ∧ RfAt w' g base (ρ.op 3 p true v) ∧ RMod base g w w' := by
  have HO := Lib.hid (rop_any g base ρ w H p ho 3 v true)
  clear H ho
  go_enter Tryz.func121, Tryz.ntmps121
  go_wp2_with fail
  refine HO.out.mono ?_
  rintro e w1 ⟨rfl, h1, h2⟩
  go_wp2_with fail
  go_ret
  exact ⟨rfl, h1, h2⟩
theorem rcas_any (old v : Int) : Calls Tryz.prog 117 #[.pointer (some ⟨g, 0, none⟩), .int .i64 p, .int .i64 old, .int .i64 v] w fun e w' => e = .returned (.bool (ρ.has p && (ρ.get p == old))) ∧ RfAt w' g base (ρ.op 4 p (ρ.get p == old) v) ∧ RMod base g w w' := by
  have HA := Lib.hid (rat_any g base ρ w H p)
  obtain ⟨b, hb⟩ : ∃ b, (ρ.get p == old) = b := ⟨_, rfl⟩
  have HO := Lib.hid (rop_any g base ρ w H p ho 4 v b)
  rw [hb]
  have HB := Lib.hid (show (ρ.get p == old) = b from hb)
  generalize ρ.get p = x at *
  generalize ρ.has p = y at *
  clear H ho HB
  go_enter Tryz.func117, Tryz.ntmps117
  go_wp2_with fail
  refine (HA.out).mono ?_
  rintro e wx ⟨rfl, hwx⟩
  obtain rfl := hwx.symm
  go_wp2_with fail
  refine HO.out.mono ?_
  rintro e w1 ⟨rfl, h1, h2⟩
  cases y
  · go_wp2_with fail
    go_ret
    exact ⟨rfl, h1, h2⟩
  · go_wp2_with fail
    go_ret
    exact ⟨rfl, h1, h2⟩
theorem radd_any (d : Int) : Calls Tryz.prog 118 #[.pointer (some ⟨g, 0, none⟩), .int .i64 p, .int .i64 d] w fun e w' => e = .returned (.int .i64 (if ρ.has p then wrap64 (ρ.get p + d) else 0)) ∧ RfAt w' g base (ρ.op 5 p true (wrap64 (ρ.get p + d))) ∧ RMod base g w w' := by
  have HA := Lib.hid (rat_any g base ρ w H p)
  have HO := Lib.hid (rop_any g base ρ w H p ho 5 (wrap64 (ρ.get p + d)) true)
  have HA2 := Lib.hid (fun W hW => rat_any g base (ρ.op 5 p true (wrap64 (ρ.get p + d))) W hW p)
  have hgv : ρ.has p = true → (ρ.op 5 p true (wrap64 (ρ.get p + d))).get p = wrap64 (ρ.get p + d) := by
    intro hh
    rcases ρ.cases p with ⟨h, _⟩ | ⟨k, hk, rfl⟩
    · rw [h] at hh; cases hh
    · rw [Rf.op_in hk]
      have hk2 : k < (ρ.did 5 ((k : Int) + 1) true (if true = true then ρ.ws.set k (wrap64 (ρ.get ((k : Int) + 1) + d)) else ρ.ws)).ws.length := by simp [Rf.did]; exact hk
      rw [Rf.get_in hk2]
      simp [Rf.did, hk]
  have HG := Lib.hid hgv
  clear hgv H ho
  generalize ρ.op 5 p true (wrap64 (ρ.get p + d)) = ρ2 at *
  generalize ρ.get p = x at *
  cases hy : ρ.has p
  · rw [hy] at HO
    clear hy HG
    go_enter Tryz.func118, Tryz.ntmps118
    go_wp2_with fail
    refine (HA.out).mono ?_
    rintro e wx ⟨rfl, hwx⟩
    obtain rfl := hwx.symm
    go_wp2_with fail
    refine HO.out.mono ?_
    rintro e w1 ⟨rfl, h1, h2⟩
    go_wp2_with fail
    go_ret
    exact ⟨rfl, h1, h2⟩
  · rw [hy] at HO
    have HV := Lib.hid (HG.out hy)
    clear hy HG
    go_enter Tryz.func118, Tryz.ntmps118
    go_wp2_with fail
    refine (HA.out).mono ?_
    rintro e wx ⟨rfl, hwx⟩
    obtain rfl := hwx.symm
    go_wp2_with fail
    refine HO.out.mono ?_
    rintro e w1 ⟨rfl, h1, h2⟩
    go_wp2_with fail
    refine (HA2.out _ h1).mono ?_
    rintro e wx ⟨rfl, hwx⟩
    obtain rfl := hwx.symm
    go_wp2_with fail
    go_ret
    exact ⟨by rw [HV.out]; rfl, h1, h2⟩
end
end Go.Proofs.YthffhhgaeolpgaaGreat.Ara

/- Both arenas are alike. -/
namespace Go.Proofs.YthffhhgaeolpgaaGreat.Ara
open Go.RowKit

def Alk (σ : Ar) (ρ : Rf) : Prop :=
  ρ.room = σ.ws.length ∧ ρ.ws = σ.ws.take σ.t ∧ σ.t ≤ σ.ws.length ∧ (∀ i, σ.t ≤ i → σ.ws.getD i 0 = 0) ∧ ρ.ops = σ.ops ∧ ρ.kind = σ.kind ∧ ρ.pos = σ.pos ∧ ρ.wrote = σ.wrote
theorem Alk.len {σ : Ar} {ρ : Rf} (h : Alk σ ρ) : ρ.ws.length = σ.t := by
  rw [h.2.1, List.length_take]
  have := h.2.2.1
  omega
theorem Alk.has {σ : Ar} {ρ : Rf} (h : Alk σ ρ) (p : Int) : ρ.has p = σ.has p := by unfold Rf.has Ar.has; rw [h.len]
theorem Alk.get {σ : Ar} {ρ : Rf} (h : Alk σ ρ) (p : Int) : ρ.get p = σ.get p := by
  unfold Rf.get Ar.get
  rw [h.has]
  split
  · rename_i hh
    simp [Ar.has] at hh
    rw [h.2.1]
    simp only [List.getD_eq_getElem?_getD]
    rw [List.getElem?_take_of_lt (by omega)]
  · rfl
theorem Alk.op {σ : Ar} {ρ : Rf} (h : Alk σ ρ) (kind p v : Int) (wrote : Bool) : Alk (σ.op kind p wrote v) (ρ.op kind p wrote v) := by
  unfold Ar.op Rf.op
  rw [h.has]
  split
  · rename_i hh
    simp [Ar.has] at hh
    obtain ⟨h1, h2, h3, h4, h5, h6, h7, h8⟩ := h
    cases wrote
    · exact ⟨h1, h2, h3, h4, by show ρ.ops + 1 = σ.ops + 1; rw [h5], rfl, rfl, rfl⟩
    · refine ⟨by show ρ.room = ((σ.ws.set (p - 1).toNat v).length : Int); rw [List.length_set]; exact h1, ?_, by show σ.t ≤ (σ.ws.set (p - 1).toNat v).length; rw [List.length_set]; exact h3, ?_, by show ρ.ops + 1 = σ.ops + 1; rw [h5], rfl, rfl, rfl⟩
      · show ρ.ws.set (p - 1).toNat v = (σ.ws.set (p - 1).toNat v).take σ.t
        rw [h2, List.take_set]
      · intro i hi
        show (σ.ws.set (p - 1).toNat v).getD i 0 = 0
        have := h4 i hi
        simp only [List.getD_eq_getElem?_getD] at this ⊢
        rw [List.getElem?_set_ne (by have : σ.t ≤ i := hi; omega)]
        exact this
  · exact h
theorem Alk.take {σ : Ar} {ρ : Rf} (h : Alk σ ρ) (n : Int) : (ρ.take n).1 = (σ.take n).1 ∧ Alk (σ.take n).2 (ρ.take n).2 := by
  unfold Ar.take Rf.take
  by_cases h0 : n < 0
  · rw [if_pos h0, if_pos h0]; exact ⟨rfl, h⟩
  rw [if_neg h0, if_neg h0, h.len, h.1]
  by_cases h1 : (σ.ws.length : Int) - σ.t < n
  · rw [if_pos h1, if_pos h1]; exact ⟨rfl, h⟩
  rw [if_neg h1, if_neg h1]
  refine ⟨rfl, ?_⟩
  obtain ⟨g1, g2, g3, g4, g5, g6, g7, g8⟩ := h
  refine ⟨rfl, ?_, by show σ.t + n.toNat ≤ σ.ws.length; omega, fun i hi => g4 i (by have : σ.t + n.toNat ≤ i := hi; omega), g5, g6, g7, g8⟩
  show ρ.ws ++ List.replicate n.toNat 0 = σ.ws.take (σ.t + n.toNat)
  rw [g2, List.take_add]
  congr 1
  apply List.ext_getElem
  · simp; omega
  · intro i i1 i2
    have := g4 (σ.t + i) (by omega)
    simp only [List.getD_eq_getElem?_getD] at this
    simp at i1
    rw [List.getElem?_eq_getElem (by omega)] at this
    simp only [Option.getD_some] at this
    simp [this]
theorem cas_same {σ : Ar} {ρ : Rf} (h : Alk σ ρ) (p old v : Int) : Alk (σ.op 4 p (σ.has p && (σ.get p == old)) v) (ρ.op 4 p (ρ.get p == old) v) := by
  rw [h.get]
  cases hh : σ.has p
  · rw [Ar.op_out hh]
    unfold Rf.op
    rw [h.has, hh, if_neg (by decide)]
    exact h
  · rw [Bool.true_and]
    exact h.op 4 p v _
end Go.Proofs.YthffhhgaeolpgaaGreat.Ara

/- An arena that a law has made. -/
namespace Go.Proofs.YthffhhgaeolpgaaGreat.Ara
open Go.RowKit

theorem ArAt.upd {B : Nat} {S : List Nat} {w w' : World} {g h : Nat} {σ : Ar} (k : ArAt w g h σ) (hm : Upd B S w w') (hgB : g < B) (hhB : h < B) (hg : g ∉ S) (hh : h ∉ S) : ArAt w' g h σ := by
  obtain ⟨h1, h2, A, c, h3, h4⟩ := k
  refine ⟨h1, h2, A, c, hm.blk h3 hgB hg, ?_⟩
  rcases h4 with h4 | ⟨a, b, c⟩
  · exact .inl h4
  · exact .inr ⟨a, b, hm.blk c hhB hh⟩

def AtA (B : Nat) (W0 W : World) (σ : Ar) : Prop := ArAt W (B + 1) B σ ∧ B + 1 + 1 ≤ W.heap.size ∧ Below B W0 W
theorem AtA.base {B : Nat} {W0 W W' : World} {σ : Ar} (h : AtA B W0 W σ) (hb : Below (B + 1 + 1) W W') : AtA B W0 W' σ :=
  ⟨h.1.upd (S := []) (Upd.of_below hb) (by omega) (by omega) (by simp) (by simp), Nat.le_trans h.2.1 hb.size, h.2.2.trans (hb.mono (by omega))⟩
theorem AtA.same {B : Nat} {W0 W W' : World} {σ : Ar} (h : AtA B W0 W σ) (hb : Below W.heap.size W W') : AtA B W0 W' σ := h.base (hb.mono h.2.1)
theorem AtA.mod {B : Nat} {W0 W W' : World} {σ σ' : Ar} (h : AtA B W0 W σ) (hi : ArAt W' (B + 1) B σ') (hm : Mod [B + 1, B] W W') : AtA B W0 W' σ' :=
  ⟨hi, Nat.le_trans h.2.1 hm.size, hm.below_of h.2.2 (by have := h.2.1; omega) (by simp)⟩
section
variable (B : Nat) (W0 W : World) (σ σ' : Ar) (H : AtA B W0 W σ)
include H
theorem take_at (n : Int) (r e : Int) (h : σ.take n = ((r, e), σ')) : Calls Tryz.prog 81 #[.pointer (some ⟨B + 1, 0, none⟩), .int .i64 n] W fun x w' => x = .returned (.tuple #[.int .i64 r, .int .i64 e]) ∧ AtA B W0 w' σ' ∧ Mod [B + 1, B] W w' := by
  have := take_any (B + 1) B σ W H.1 n
  rw [h] at this
  exact this.mono fun x w' ⟨h1, h2, h3⟩ => ⟨h1, H.mod h2 h3, h3⟩
theorem load_at (ho : σ.ops ≤ 1000000) (p r : Int) (h1 : σ.get p = r) (h2 : σ.op 1 p false 0 = σ') : Calls Tryz.prog 158 #[.pointer (some ⟨B + 1, 0, none⟩), .int .i64 p] W fun x w' => x = .returned (.int .i64 r) ∧ AtA B W0 w' σ' ∧ Mod [B + 1, B] W w' := by
  subst h1 h2
  exact (load_any (B + 1) B σ W H.1 ho p).mono fun x w' ⟨h1, h2, h3⟩ => ⟨h1, H.mod h2 h3, h3⟩
theorem store_at (ho : σ.ops ≤ 1000000) (p v : Int) (h2 : σ.op 2 p true v = σ') : Calls Tryz.prog 83 #[.pointer (some ⟨B + 1, 0, none⟩), .int .i64 p, .int .i64 v] W fun x w' => x = .returned (.tuple #[]) ∧ AtA B W0 w' σ' ∧ Mod [B + 1, B] W w' := by
  subst h2
  exact (store_any (B + 1) B σ W H.1 ho p v).mono fun x w' ⟨h1, h2, h3⟩ => ⟨h1, H.mod h2 h3, h3⟩
theorem swap_at (ho : σ.ops ≤ 1000000) (p v r : Int) (h1 : σ.get p = r) (h2 : σ.op 3 p true v = σ') : Calls Tryz.prog 190 #[.pointer (some ⟨B + 1, 0, none⟩), .int .i64 p, .int .i64 v] W fun x w' => x = .returned (.int .i64 r) ∧ AtA B W0 w' σ' ∧ Mod [B + 1, B] W w' := by
  subst h1 h2
  exact (swap_any (B + 1) B σ W H.1 ho p v).mono fun x w' ⟨h1, h2, h3⟩ => ⟨h1, H.mod h2 h3, h3⟩
theorem cas_at (ho : σ.ops ≤ 1000000) (p old v : Int) (r : Bool) (h1 : (σ.has p && (σ.get p == old)) = r) (h2 : σ.op 4 p r v = σ') : Calls Tryz.prog 146 #[.pointer (some ⟨B + 1, 0, none⟩), .int .i64 p, .int .i64 old, .int .i64 v] W fun x w' => x = .returned (.bool r) ∧ AtA B W0 w' σ' ∧ Mod [B + 1, B] W w' := by
  subst h1 h2
  exact (cas_any (B + 1) B σ W H.1 ho p old v).mono fun x w' ⟨h1, h2, h3⟩ => ⟨h1, H.mod h2 h3, h3⟩
theorem add_at (ho : σ.ops ≤ 1000000) (p d r : Int) (h1 : (if σ.has p then wrap64 (σ.get p + d) else 0) = r) (h2 : σ.op 5 p true (wrap64 (σ.get p + d)) = σ') : Calls Tryz.prog 163 #[.pointer (some ⟨B + 1, 0, none⟩), .int .i64 p, .int .i64 d] W fun x w' => x = .returned (.int .i64 r) ∧ AtA B W0 w' σ' ∧ Mod [B + 1, B] W w' := by
  subst h1 h2
  exact (add_any (B + 1) B σ W H.1 ho p d).mono fun x w' ⟨h1, h2, h3⟩ => ⟨h1, H.mod h2 h3, h3⟩
end
theorem new_at (t : Int) (w : World) (σ : Ar) (h : Ar.fresh (room t) = σ) : Calls Tryz.prog 10 #[.int .i64 t] w fun e w' => e = .returned (.pointer (some ⟨w.heap.size + 1, 0, none⟩)) ∧ AtA w.heap.size w w' σ := by
  subst h
  exact (new_in t w).mono fun e w' ⟨h1, h2, h3, h4⟩ => ⟨h1, h2, by omega, h4⟩
end Go.Proofs.YthffhhgaeolpgaaGreat.Ara

/- A cell that a call keeps. -/
namespace Go.Proofs.YthffhhgaeolpgaaGreat
open Go.RowKit

theorem keep1 {W W' : World} {p : Addr} {v : Value} (hb : Below W.heap.size W W') (h : W.cell? p = some v) : W'.cell? p = some v := (hb.cell (World.block_lt_of_cell? _ _ h)).trans h
theorem keepM {S : List Nat} {W W' : World} {p : Addr} {v : Value} (hm : Mod S W W') (h : W.cell? p = some v) (hn : p.block ∉ S) : W'.cell? p = some v := by
  have hb := hm.block p.block (World.block_lt_of_cell? _ _ h) hn
  simpa [World.cell?, hb] using h
end Go.Proofs.YthffhhgaeolpgaaGreat

/- Spots of slots: as Lean has them, and in memory. -/
namespace Go.Proofs.YthffhhgaeolpgaaGreat.Lok
open Go.RowKit Go.Proofs.YthffhhgaeolpgaaGreat.Ara

structure Sp where
  pc : Int
  a : Int
  b : Int
  c : Int
  deriving DecidableEq
def decSp (s : Sp) : List Value := [.int .i64 s.pc, .int .i64 s.a, .int .i64 s.b, .int .i64 s.c]
def sp0 : Sp := ⟨0, 0, 0, 0⟩
theorem flat_set {α : Type} {dec : α → List Value} {k : Nat} (hdk : ∀ a, (dec a).length = k) (l : List α) (i j : Nat) (hj : j < k) (a a' : α) (ha : l[i]? = some a) (v : Value) (hv : dec a' = (dec a).set j v) :
    (l.flatMap dec).set (i * k + j) v = (l.set i a').flatMap dec := by
  induction l generalizing i with
  | nil => simp at ha
  | cons y l ih =>
    cases i with
    | zero =>
      obtain rfl : y = a := by simpa using ha
      rw [List.flatMap_cons, List.set_cons_zero, List.flatMap_cons, hv, Nat.zero_mul, Nat.zero_add, List.set_append_left _ _ (by rw [hdk]; exact hj)]
    | succ i =>
      rw [List.flatMap_cons, List.set_cons_succ, List.flatMap_cons, ← ih i (by simpa using ha), List.set_append_right _ _ (by rw [hdk, Nat.add_mul]; omega), hdk, show (i + 1) * k + j - k = i * k + j by rw [Nat.add_mul]; omega]
def SpAt (W : World) (h : Nat) (sp : List Sp) : Prop :=
  ∃ cur : Array Value, W.heap[h]? = some (.cells cur 53 (0, 0)) ∧ cur.toList.take (sp.length * 4) = sp.flatMap decSp
theorem SpAt.lt {W : World} {h : Nat} {sp : List Sp} (k : SpAt W h sp) : h < W.heap.size := by
  obtain ⟨cur, h1, _⟩ := k
  exact lt_of_blk h1
theorem SpAt.of_blk {W W' : World} {h : Nat} {sp : List Sp} (k : SpAt W h sp) (e : W'.heap[h]? = W.heap[h]?) : SpAt W' h sp := by
  obtain ⟨cur, h1, h2⟩ := k
  exact ⟨cur, e.trans h1, h2⟩
theorem SpAt.mod {S : List Nat} {W W' : World} {h : Nat} {sp : List Sp} (k : SpAt W h sp) (hm : Mod S W W') (hh : h ∉ S) : SpAt W' h sp := k.of_blk (hm.block h k.lt hh)
theorem decSp_len (s : Sp) : (decSp s).length = 4 := rfl
theorem SpAt.cell {W : World} {h : Nat} {sp : List Sp} (k : SpAt W h sp) (i : Nat) (hi : i < sp.length) (j : Nat) (hj : j < 4) : W.cell? ⟨h, i * 4 + j, none⟩ = (decSp sp[i])[j]? := by
  obtain ⟨cur, h1, h2⟩ := k
  have h3 := flat_get decSp_len sp i j hj sp[i] (List.getElem?_eq_getElem hi)
  rw [← h2, List.getElem?_take_of_lt (by omega)] at h3
  have hl : i * 4 + j < cur.toList.length := by
    have := congrArg List.length h2
    rw [List.length_take, flat_len decSp_len] at this
    omega
  rw [← h3, blk_cell h1 (i * 4 + j) (by simpa using hl)]
  simp at hl
  simp [hl]
theorem SpAt.cells {W : World} {h : Nat} {sp : List Sp} (k : SpAt W h sp) (i : Nat) (hi : i < sp.length) :
    W.cell? ⟨h, i * 4, none⟩ = some (.int .i64 sp[i].pc) ∧ W.cell? ⟨h, i * 4 + 1, none⟩ = some (.int .i64 sp[i].a) ∧ W.cell? ⟨h, i * 4 + 2, none⟩ = some (.int .i64 sp[i].b) ∧ W.cell? ⟨h, i * 4 + 3, none⟩ = some (.int .i64 sp[i].c) ∧ ∀ j, W.frozen? ⟨h, j, none⟩ = false := by
  refine ⟨k.cell i hi 0 (by omega), k.cell i hi 1 (by omega), k.cell i hi 2 (by omega), k.cell i hi 3 (by omega), fun j => ?_⟩
  obtain ⟨cur, h1, _⟩ := k
  exact blk_free h1 j
theorem SpAt.set {W : World} {h : Nat} {sp : List Sp} (k : SpAt W h sp) (i : Nat) (hi : i < sp.length) (j : Nat) (hj : j < 4) (v : Value) (s' : Sp) (hv : decSp s' = (decSp sp[i]).set j v) : SpAt (W.setCell ⟨h, i * 4 + j, none⟩ v) h (sp.set i s') := by
  obtain ⟨cur, h1, h2⟩ := k
  refine ⟨cur.setIfInBounds (i * 4 + j) v, blk_set h1 _ _, ?_⟩
  rw [← flat_set decSp_len sp i j hj sp[i] s' (List.getElem?_eq_getElem hi) v hv, ← h2, List.length_set, Array.toList_setIfInBounds, List.take_set]
theorem SpAt.setPc {W : World} {h : Nat} {sp : List Sp} (k : SpAt W h sp) (i : Nat) (hi : i < sp.length) (x : Int) : SpAt (W.setCell ⟨h, i * 4, none⟩ (.int .i64 x)) h (sp.set i { sp[i] with pc := x }) := k.set i hi 0 (by omega) _ _ rfl
theorem SpAt.setA {W : World} {h : Nat} {sp : List Sp} (k : SpAt W h sp) (i : Nat) (hi : i < sp.length) (x : Int) : SpAt (W.setCell ⟨h, i * 4 + 1, none⟩ (.int .i64 x)) h (sp.set i { sp[i] with a := x }) := k.set i hi 1 (by omega) _ _ rfl
theorem SpAt.setB {W : World} {h : Nat} {sp : List Sp} (k : SpAt W h sp) (i : Nat) (hi : i < sp.length) (x : Int) : SpAt (W.setCell ⟨h, i * 4 + 2, none⟩ (.int .i64 x)) h (sp.set i { sp[i] with b := x }) := k.set i hi 2 (by omega) _ _ rfl

def spOf (sp : List Sp) (i : Int) : Sp := if 0 ≤ i ∧ i < sp.length then sp.getD i.toNat sp0 else sp0
theorem spOf_in {sp : List Sp} {k : Nat} (h : k < sp.length) : spOf sp (k : Int) = sp[k] := by
  unfold spOf
  rw [if_pos (by omega), Int.toNat_natCast]
  simp [h]
theorem spOf_out {sp : List Sp} {i : Int} (h : i < 0 ∨ (sp.length : Int) ≤ i) : spOf sp i = sp0 := by
  unfold spOf
  rw [if_neg (by omega)]
def turnB (sp : List Sp) (i fr : Int) : Bool := decide (0 ≤ i) && decide (i < sp.length) && ((spOf sp i).pc == fr)
def turnS (sp : List Sp) (i fr to : Int) : List Sp := if turnB sp i fr then sp.set i.toNat { spOf sp i with pc := to } else sp
theorem turn_out {sp : List Sp} {i : Int} (h : i < 0 ∨ (sp.length : Int) ≤ i) (fr : Int) : turnB sp i fr = false := by
  unfold turnB
  rcases h with h | h
  · rw [decide_eq_false (by omega), Bool.false_and, Bool.false_and]
  · rw [decide_eq_false (p := i < _) (by omega), Bool.and_false, Bool.false_and]
theorem turn_in {sp : List Sp} {k : Nat} (h : k < sp.length) (fr : Int) : turnB sp (k : Int) fr = (sp[k].pc == fr) := by
  unfold turnB
  rw [decide_eq_true (by omega), decide_eq_true (by omega), spOf_in h]
  rfl
theorem turnS_in {sp : List Sp} {k : Nat} (h : k < sp.length) (fr to : Int) : turnS sp (k : Int) fr to = if sp[k].pc = fr then sp.set k { sp[k] with pc := to } else sp := by
  unfold turnS
  rw [turn_in h, spOf_in h, Int.toNat_natCast]
  simp only [beq_iff_eq]
theorem turnS_out {sp : List Sp} {i : Int} (h : i < 0 ∨ (sp.length : Int) ≤ i) (fr to : Int) : turnS sp i fr to = sp := by
  unfold turnS
  rw [turn_out h, if_neg (by decide)]
theorem turnS_len (sp : List Sp) (i fr to : Int) : (turnS sp i fr to).length = sp.length := by
  unfold turnS
  split
  · rw [List.length_set]
  · rfl
end Go.Proofs.YthffhhgaeolpgaaGreat.Lok

/- Ops and spots as Lean has them: what an op leaves of each word; what a turn leaves of each spot; counts of spots. -/
namespace Go.Proofs.YthffhhgaeolpgaaGreat.Lok
open Go.RowKit Go.Proofs.YthffhhgaeolpgaaGreat.Ara

theorem op_has (σ : Ar) (kd p v : Int) (wr : Bool) (q : Int) : (σ.op kd p wr v).has q = σ.has q := by
  unfold Ar.op Ar.has
  split <;> rfl
theorem op_t (σ : Ar) (kd p v : Int) (wr : Bool) : (σ.op kd p wr v).t = σ.t := by
  unfold Ar.op
  split <;> rfl
theorem op_len (σ : Ar) (kd p v : Int) (wr : Bool) : (σ.op kd p wr v).ws.length = σ.ws.length := by
  unfold Ar.op
  split
  · cases wr
    · rfl
    · exact List.length_set
  · rfl
theorem op_ops (σ : Ar) (kd p v : Int) (wr : Bool) : (σ.op kd p wr v).ops = σ.ops + if σ.has p then 1 else 0 := by
  unfold Ar.op
  split <;> rfl
theorem op_kind (σ : Ar) (kd p v : Int) (wr : Bool) (h : σ.has p = true) : (σ.op kd p wr v).kind = kd := by
  unfold Ar.op
  rw [if_pos h]
  rfl
theorem get_op (σ : Ar) (hl : σ.t ≤ σ.ws.length) (kd p v : Int) (wr : Bool) (q : Int) : (σ.op kd p wr v).get q = if σ.has p = true ∧ wr = true ∧ q = p then v else σ.get q := by
  unfold Ar.get
  rw [op_has]
  unfold Ar.op
  by_cases hp : σ.has p = true
  · rw [if_pos hp]
    cases wr
    · simp [Ar.did]
    · by_cases hq : q = p
      · subst hq
        have h2 := hp
        simp [Ar.has] at h2
        simp only [hp, if_true, Ar.did, and_self]
        simp only [List.getD_eq_getElem?_getD]
        rw [List.getElem?_set_self (by omega)]
        rfl
      · simp only [hq, and_false, if_false, Ar.did, if_true]
        by_cases hh : σ.has q = true
        · simp only [hh, if_true]
          simp [Ar.has] at hh hp
          simp only [List.getD_eq_getElem?_getD]
          rw [List.getElem?_set_ne (by omega)]
        · simp only [hh]
          simp
  · rw [if_neg hp]
    simp [hp]
theorem get_read (σ : Ar) (hl : σ.t ≤ σ.ws.length) (kd p v : Int) (q : Int) : (σ.op kd p false v).get q = σ.get q := by
  rw [get_op σ hl]
  simp

theorem spOf_set {sp : List Sp} {i : Int} (h0 : 0 ≤ i) (h1 : i < sp.length) (s' : Sp) (j : Int) : spOf (sp.set i.toNat s') j = if j = i then s' else spOf sp j := by
  unfold spOf
  rw [List.length_set]
  by_cases hj : 0 ≤ j ∧ j < sp.length
  · rw [if_pos hj, if_pos hj]
    simp only [List.getD_eq_getElem?_getD]
    by_cases e : j = i
    · subst e
      rw [if_pos rfl, List.getElem?_set_self (by omega)]
      rfl
    · rw [if_neg e, List.getElem?_set_ne (by omega)]
  · rw [if_neg hj, if_neg hj, if_neg (by omega)]
theorem spOf_range {sp : List Sp} {i : Int} (h : (spOf sp i).pc ≠ 0) : 0 ≤ i ∧ i < sp.length := by
  by_cases hi : 0 ≤ i ∧ i < sp.length
  · exact hi
  · exfalso
    apply h
    rw [spOf_out (by omega)]
    rfl
theorem turn_true {sp : List Sp} {i fr : Int} (h : turnB sp i fr = true) : (0 ≤ i ∧ i < sp.length) ∧ (spOf sp i).pc = fr := by
  simp [turnB] at h
  omega
theorem spOf_turn {sp : List Sp} {i fr : Int} (to : Int) (h : turnB sp i fr = true) (j : Int) : spOf (turnS sp i fr to) j = if j = i then { spOf sp i with pc := to } else spOf sp j := by
  unfold turnS
  rw [if_pos h]
  obtain ⟨⟨h0, h1⟩, _⟩ := turn_true h
  exact spOf_set h0 h1 _ j
theorem turn_no {sp : List Sp} {i fr : Int} (to : Int) (h : turnB sp i fr = false) : turnS sp i fr to = sp := by
  unfold turnS
  rw [if_neg (by simp [h])]

def cnt (f : Sp → Bool) (sp : List Sp) : Nat → Nat
  | 0 => 0
  | k + 1 => cnt f sp k + if f (spOf sp (k : Int)) then 1 else 0
theorem cnt_le (f : Sp → Bool) (sp : List Sp) (n : Nat) : cnt f sp n ≤ n := by
  induction n with
  | zero => exact Nat.le_refl _
  | succ n ih => unfold cnt; split <;> omega
theorem cnt_one (f : Sp → Bool) (sp : List Sp) (h : ∀ i j, f (spOf sp i) = true → f (spOf sp j) = true → i = j) (n : Nat) : cnt f sp n ≤ 1 := by
  induction n with
  | zero => exact Nat.zero_le _
  | succ n ih =>
    unfold cnt
    split
    · rename_i hf
      have h0 : ∀ m, m ≤ n → cnt f sp m = 0 := by
        intro m
        induction m with
        | zero => intro _; rfl
        | succ m ihm =>
          intro hm
          unfold cnt
          rw [ihm (by omega)]
          split
          · rename_i hg
            have := h _ _ hf hg
            omega
          · rfl
      rw [h0 n (Nat.le_refl _)]
      exact Nat.le_refl _
    · omega
theorem cnt_some (f : Sp → Bool) (sp : List Sp) (i : Int) (hf : f (spOf sp i) = true) (h0 : 0 ≤ i) (n : Nat) (hn : i < n) : 0 < cnt f sp n := by
  induction n with
  | zero => omega
  | succ n ih =>
    unfold cnt
    by_cases e : i = n
    · subst e
      rw [if_pos hf]
      omega
    · have := ih (by omega)
      omega
end Go.Proofs.YthffhhgaeolpgaaGreat.Lok

/- The reference's Same: are numbers the same? -/
namespace Go.Proofs.YthffhhgaeolpgaaGreat.Ara
open Go.RowKit

def decI (n : Int) : List Value := [.int .i64 n]
theorem same_any (l k : List Int) (A C : Option Addr) (c1 c2 : Nat) (w : World) (hm : l.length ≤ 9223372036854775807) (hm2 : k.length ≤ 9223372036854775807)
    (hs : Sl w w.heap.size A (l.flatMap decI)) (ht : Sl w w.heap.size C (k.flatMap decI)) :
    Calls Tryz.prog 20 #[.slice A l.length c1, .slice C k.length c2] w fun e w' => e = .returned (.bool (decide (l = k))) ∧ Below w.heap.size w w' := by
  by_cases hl : l.length = k.length
  · have hlb := nbeq hl
    have hlb2 := nbne_no hl
    have HL := Lib.hid hl
    clear hl
    go_enter Tryz.func20, Tryz.ntmps20
    go_wp2
    go_loopw [5] (fun i wr => ∃ j : Nat, j ≤ l.length ∧ i = .int .i64 j ∧ l.take j = k.take j ∧ Below w.heap.size w wr) (fun i _ => l.length - (intOf i).toNat)
    case atStart => exact ⟨0, by omega, rfl, rfl, Below.refl _ _⟩
    case round =>
      obtain ⟨j, hj, rfl, hjt, hb⟩ := hrel
      have HJ := Lib.hid hjt
      clear hjt
      by_cases hlt : j < l.length
      · have hlt2 : j < k.length := by have := HL.out; omega
        obtain ⟨b, off, rfl, hbb, hcell⟩ := Sl_at (k := 1) (fun _ => rfl) (by omega) (hs.below hb) (by omega)
        obtain ⟨b', off', rfl, hbb', hcell'⟩ := Sl_at (k := 1) (fun _ => rfl) (by omega) (ht.below hb) (by omega)
        have h0 := hcell j hlt 0 (by omega)
        have g0 := hcell' j hlt2 0 (by omega)
        simp only [decI, List.getElem?_cons_zero, Nat.add_zero, Nat.mul_one] at h0 g0
        clear hcell hcell'
        have i1 : (j : Int) < (k.length : Int) := by omega
        have i0 : (j : Int) < (l.length : Int) := by omega
        have hnx := Lib.hid (show l[j] = k[j] → l.take (j + 1) = k.take (j + 1) by
          intro h
          rw [List.take_succ_eq_append_getElem hlt, List.take_succ_eq_append_getElem hlt2, HJ.out, h])
        have hno := Lib.hid (show ¬ l[j] = k[j] → decide (l = k) = false by
          intro h
          rw [decide_eq_false_iff_not]
          rintro rfl
          exact h rfl)
        generalize l[j] = x at *
        generalize k[j] = y at *
        by_cases hn : x = y
        · have q := ibne_no hn
          have HN := Lib.hid (hnx.out hn)
          clear hn
          go_wp2_with fail
          go_quiet (fail)
          go_wp2
          go_roundw
          case rel => exact ⟨j + 1, by omega, by go_num, HN.out, below_drewN hb _⟩
          case measure => simp [intOf]; omega
        · have q := ibne hn
          have HN := Lib.hid (hno.out hn)
          clear hn
          go_wp2_with fail
          go_quiet (fail)
          go_wp2
          go_ret
          exact ⟨by rw [HN.out]; rfl, below_drewN hb _⟩
      · have he := Lib.hid (show decide (l = k) = true by
          rw [decide_eq_true_iff]
          have := HJ.out
          rwa [List.take_of_length_le (by omega), List.take_of_length_le (by have := HL.out; omega)] at this)
        go_wp2
        go_ret
        exact ⟨by rw [he.out]; rfl, hb⟩
  · have hlb2 := nbne hl
    have hn := Lib.hid (show decide (l = k) = false by simp; rintro rfl; exact hl rfl)
    clear hl
    go_enter Tryz.func20, Tryz.ntmps20
    go_wp2
    go_ret
    exact ⟨by rw [hn.out]; rfl, Below.refl _ _⟩
theorem flatI (l : List Int) : l.flatMap decI = l.map (Value.int .i64) := by
  induction l with
  | nil => rfl
  | cons a l ih => rw [List.flatMap_cons, List.map_cons, ih]; rfl
end Go.Proofs.YthffhhgaeolpgaaGreat.Ara

/- What the laws of locks ask of an arena and of spots beside the lock: Words, Same, spots compared; two rows of the call's own. -/
namespace Go.Proofs.YthffhhgaeolpgaaGreat.Lok
open Go.RowKit Go.Proofs.YthffhhgaeolpgaaGreat.Ara

theorem words_ar (g h : Nat) (σ : Ar) (w : World) (H : ArAt w g h σ) : Calls Tryz.prog 21 #[.pointer (some ⟨g, 0, none⟩)] w fun e w' => ∃ A c, e = .returned (.slice A σ.t c) ∧ Sl w' w'.heap.size A ((σ.ws.take σ.t).flatMap decI) ∧ Below w.heap.size w w' := by
  refine (words_any g h σ w H).mono ?_
  rintro e w' ⟨v, rfl, hown, hb⟩
  obtain ⟨A, c, rfl, _, _, h2⟩ := own_slice hown
  refine ⟨A, c, rfl, ?_, hb⟩
  rw [flatI]
  exact h2
def Rw (B : Nat) (W : World) (A : Option Addr) (c n : Nat) (l : List Int) : Prop := W.ownsRow B 3 1 (.slice A n c) n (l.map vI)
theorem Rw.mod {S : List Nat} {B : Nat} {W W' : World} {A : Option Addr} {c n : Nat} {l : List Int} (h : Rw B W A c n l) (hm : Mod S W W') (hS : ∀ k ∈ S, k < B) : Rw B W' A c n l := own_mod h hm hS
theorem Rw.same {B : Nat} {W W' : World} {A : Option Addr} {c n : Nat} {l : List Int} (h : Rw B W A c n l) (hb : Below W.heap.size W W') : Rw B W' A c n l := h.mod (S := []) (Mod.of_below hb) (by simp)
theorem Rw.sl {B : Nat} {W : World} {A : Option Addr} {c n : Nat} {l : List Int} (h : Rw B W A c n l) : Sl W W.heap.size A (l.flatMap decI) := by
  obtain ⟨A', c', h1, _, _, h2⟩ := own_slice h
  injection h1 with h1 _ _
  subst h1
  rw [flatI]
  exact h2
theorem words_own (g h : Nat) (σ : Ar) (w : World) (H : ArAt w g h σ) (n : Nat) (l : List Int) (hn : σ.t = n) (hl : σ.ws.take σ.t = l) : Calls Tryz.prog 21 #[.pointer (some ⟨g, 0, none⟩)] w fun e w' => ∃ A c, e = .returned (.slice A n c) ∧ Rw w.heap.size w' A c n l ∧ Below w.heap.size w w' := by
  subst hl hn
  refine (words_any g h σ w H).mono ?_
  rintro e w' ⟨v, rfl, hown, hb⟩
  obtain ⟨A, c, rfl, _, _, _⟩ := own_slice hown
  exact ⟨A, c, rfl, hown, hb⟩
theorem same_tt (l : List Int) (A C : Option Addr) (c1 c2 n : Nat) (w : World) (hn : l.length = n) (hm : n ≤ 4096) (hs : Sl w w.heap.size A (l.flatMap decI)) (ht : Sl w w.heap.size C (l.flatMap decI)) :
    Calls Tryz.prog 20 #[.slice A n c1, .slice C n c2] w fun e w' => e = .returned (.bool true) ∧ Below w.heap.size w w' := by
  subst hn
  have := same_any l l A C c1 c2 w (by omega) (by omega) hs ht
  rw [decide_eq_true rfl] at this
  exact this
set_option maxHeartbeats 4000000 in
theorem neSp (a b c d : Int) (W : World) : (binOp .neq 53 (.agg #[.int .i64 a, .int .i64 b, .int .i64 c, .int .i64 d]) (.agg #[.int .i64 a, .int .i64 b, .int .i64 c, .int .i64 d])).run Tryz.prog W = .ok (.bool false) W := by
  have hp : Tryz.prog.stoodInHeld 53 = false := by kernel_rfl
  have key : ∀ n, (Op.equalIn (n + 1 + 1) 53 (.agg #[.int .i64 a, .int .i64 b, .int .i64 c, .int .i64 d]) (.agg #[.int .i64 a, .int .i64 b, .int .i64 c, .int .i64 d])).run Tryz.prog W = .ok true W := by
    intro n
    simp only [Op.equalIn, Sem.run_bind, run_underlying Tryz.underlying53, Result.andThen_ok, run_program, hp, Bool.false_eq_true, if_false]
    rw [← Array.forIn_toList]
    simp [go_sem]
  have k := key 9998
  simp only [binOp]
  simp [Op.equal, Op.maxDepth, k]
theorem neGSp (x y : Operand) (xs ys : Array Value) (W : World) : (eqGuard .neq 53 x y (.agg xs) (.agg ys)).run Tryz.prog W = .ok () W := by
  have hm : Tryz.prog.eqGuardType Tryz.prog.depth 53 = false := by kernel_rfl
  simp [eqGuard, run_program, hm]
set_option maxHeartbeats 4000000 in
theorem eqSp (a b c d : Int) (W : World) : (binOp .eql 53 (.agg #[.int .i64 a, .int .i64 b, .int .i64 c, .int .i64 d]) (.agg #[.int .i64 a, .int .i64 b, .int .i64 c, .int .i64 d])).run Tryz.prog W = .ok (.bool true) W := by
  have hp : Tryz.prog.stoodInHeld 53 = false := by kernel_rfl
  have key : ∀ n, (Op.equalIn (n + 1 + 1) 53 (.agg #[.int .i64 a, .int .i64 b, .int .i64 c, .int .i64 d]) (.agg #[.int .i64 a, .int .i64 b, .int .i64 c, .int .i64 d])).run Tryz.prog W = .ok true W := by
    intro n
    simp only [Op.equalIn, Sem.run_bind, run_underlying Tryz.underlying53, Result.andThen_ok, run_program, hp, Bool.false_eq_true, if_false]
    rw [← Array.forIn_toList]
    simp [go_sem]
  have k := key 9998
  simp only [binOp]
  simp [Op.equal, Op.maxDepth, k]
theorem eqGSp (x y : Operand) (xs ys : Array Value) (W : World) : (eqGuard .eql 53 x y (.agg xs) (.agg ys)).run Tryz.prog W = .ok () W := by
  have hm : Tryz.prog.eqGuardType Tryz.prog.depth 53 = false := by kernel_rfl
  simp [eqGuard, run_program, hm]
theorem opfld0 (a b : Int) (c : Bool) (W : World) : (Instr.field 46 (.agg #[.int .i64 a, .int .i64 b, .bool c]) 0).run Tryz.prog W = .ok (.int .i64 a) W := by
  simp [Instr.field, run_underlying Tryz.underlying46, asAgg, go_sem]
theorem keep6 {W W' : World} {p1 p2 p3 p4 p5 p6 : Addr} {v1 v2 v3 v4 v5 v6 : Value} (hb : Below W.heap.size W W') (h : W.cell? p1 = some v1 ∧ W.cell? p2 = some v2 ∧ W.cell? p3 = some v3 ∧ W.cell? p4 = some v4 ∧ W.cell? p5 = some v5 ∧ W.cell? p6 = some v6) :
    W'.cell? p1 = some v1 ∧ W'.cell? p2 = some v2 ∧ W'.cell? p3 = some v3 ∧ W'.cell? p4 = some v4 ∧ W'.cell? p5 = some v5 ∧ W'.cell? p6 = some v6 := by
  obtain ⟨h1, h2, h3, h4, h5, h6⟩ := h
  exact ⟨keep1 hb h1, keep1 hb h2, keep1 hb h3, keep1 hb h4, keep1 hb h5, keep1 hb h6⟩
theorem wpList_append1_at {P : Program} {ops : Array Oper} {rest : List Oper} {o : Oper} {a : Act} {Q : Exit → Act → World → Prop} (s x : Operand) (t e : TypeId) (z : Value) (size bytes : Nat)
    (hgd : o.guard = none) (ho : o.op = .call { callee := .builtin .append, args := #[s, x], argTypes := #[t, t] }) (ht : P.underlying t = some (.slice e))
    (hinfo : (P.info? e).map (fun i => (i.zero, i.size, i.bytes)) = some (some z, size, bytes)) (hzs : z.cells.size = size) (hsz : 0 < size)
    (base : Nat) (w : World) (v : Value) (n : Nat) (xs : List Value) (news : Array Value) (e' : TypeId) (c g : Nat) (hown : w.ownsRow base e size v n xs) (hs : a.eval s = v) (hx : a.eval x = .slice (some ⟨g, 0, none⟩) 1 c) (hgs : w.heap.size = g)
    (hl : news.size = size) (h1 : ∀ u ∈ news.toList, u.oneCell' = true) (h63 : n + 1 ≤ maxLen) (hbytes : (n + 1) * bytes ≤ 140737488355328) (hbase : base ≤ w.heap.size)
    (h : ∀ v' w', Hid (w'.ownsRow base e size v' (n + 1) (xs ++ news.toList)) → Hid (w.grownBy w' v.ownBlock) → Hid (∀ b, v'.ownBlock = some b → v.ownBlock = some b ∨ w.heap.size ≤ b) → wpList P ops Q rest (a.put o.dst v') w') :
    wpList P ops Q (o :: rest) a (w.alloc (.cells news e')) := by
  subst hgs
  obtain ⟨i0, hi0, hz0, hz1, hz2⟩ := info_parts hinfo
  refine wpList_append_own_at _ hgd s x t ho base e i0 z size bytes ht hi0 hz0 hz1 hz2 hzs hsz v n xs hs (hown.alloc _) ⟨w.heap.size, 0, none⟩ 1 c news.toList hx (by simpa using hl) ?_ h1 h63 hbytes (by simp; omega) ?_
  · intro j u hu
    have hadd : (⟨w.heap.size, 0, none⟩ : Addr).add j = ⟨w.heap.size, j, none⟩ := by unfold Addr.add; split <;> simp_all
    rw [hadd, World.cell?_alloc_at _ _ _ _ rfl]
    simpa using hu
  · intro v' w' h2 h3 _ h4
    have hg := grown_trans (World.grownBy_alloc w (.cells news e') v.ownBlock) h3
    refine h v' w' h2 hg (fun b hb => ?_)
    rcases h4 with h4 | h4
    · left; rw [← h4]; exact hb
    · right
      rw [h4] at hb
      injection hb with hb
      rw [← hb]
      simp
end Go.Proofs.YthffhhgaeolpgaaGreat.Lok

