/- Merged texts: Mc1, Mc2, Mc3, Mc4, Mc5, PtP, Pt1, Pt2, Pt3, Pt4, Pt5, Fl1, Fl2. -/
import Derived.Test.YtfnmggmgdmokcaaGreatDoorNq6
import Derived.Deep.RegionHeld3
import Derived.Laws.EntriesVeiled
set_option linter.unusedVariables false
/- Package mcs: slots, spots, turns. -/
namespace Go.Proofs.YtfnmggmgdmokcaaGreatDoor.Mc
open Go.RowKit Go.Proofs.YtfnmggmgdmokcaaGreatDoor.Ara Go.Proofs.YtfnmggmgdmokcaaGreatDoor.Lok

def LkAt (W : World) (gl ga ha hs : Nat) (P : Par) (σ : Ar) (sp : List Sp) : Prop :=
  ArAt W ga ha σ ∧ SpAt W hs sp ∧ sp.length ≤ 32 ∧ (∃ c : Nat, W.heap[gl]? = some (.cells #[.pointer (some ⟨ga, 0, none⟩), .int .i64 P.tail, .slice (some ⟨hs, 0, none⟩) sp.length c] 138 (0, 0))) ∧ gl ≠ ga ∧ gl ≠ ha ∧ gl ≠ hs ∧ hs ≠ ga ∧ hs ≠ ha
theorem LkAt.mod {S : List Nat} {W W' : World} {gl ga ha hs : Nat} {P : Par} {σ : Ar} {sp : List Sp} (k : LkAt W gl ga ha hs P σ sp) (hm : Mod S W W') (h1 : gl ∉ S) (h2 : ga ∉ S) (h3 : ha ∉ S) (h4 : hs ∉ S) : LkAt W' gl ga ha hs P σ sp := by
  obtain ⟨k1, k2, k3, ⟨c, k4⟩, k5⟩ := k
  exact ⟨k1.mod hm h2 h3, k2.mod hm h4, k3, ⟨c, hm.blk k4 h1⟩, k5⟩
theorem LkAt.same {W W' : World} {gl ga ha hs : Nat} {P : Par} {σ : Ar} {sp : List Sp} (k : LkAt W gl ga ha hs P σ sp) (hb : Below W.heap.size W W') : LkAt W' gl ga ha hs P σ sp :=
  k.mod (S := []) (Mod.of_below hb) (by simp) (by simp) (by simp) (by simp)
theorem LkAt.drewN {W : World} {gl ga ha hs : Nat} {P : Par} {σ : Ar} {sp : List Sp} (k : LkAt W gl ga ha hs P σ sp) (n : Nat) : LkAt (W.drewN n) gl ga ha hs P σ sp := k
theorem LkAt.arena {W W' : World} {gl ga ha hs : Nat} {P : Par} {σ σ' : Ar} {sp : List Sp} (k : LkAt W gl ga ha hs P σ sp) (ha' : ArAt W' ga ha σ') (hm : Mod [ga, ha] W W') : LkAt W' gl ga ha hs P σ' sp := by
  obtain ⟨_, k2, k3, ⟨c, k4⟩, d1, d2, d3, d4, d5⟩ := k
  exact ⟨ha', k2.mod hm (by simp; omega), k3, ⟨c, hm.blk k4 (by simp; omega)⟩, d1, d2, d3, d4, d5⟩
theorem LkAt.spots {W W' : World} {gl ga ha hs : Nat} {P : Par} {σ : Ar} {sp sp' : List Sp} (k : LkAt W gl ga ha hs P σ sp) (hs' : SpAt W' hs sp') (hm : Mod [hs] W W') (hl : sp'.length = sp.length) : LkAt W' gl ga ha hs P σ sp' := by
  obtain ⟨k1, _, k3, ⟨c, k4⟩, d1, d2, d3, d4, d5⟩ := k
  refine ⟨k1.mod hm (by simp; omega) (by simp; omega), hs', by omega, ⟨c, ?_⟩, d1, d2, d3, d4, d5⟩
  have := hm.blk k4 (by simp; omega)
  rw [hl]
  exact this
theorem LkAt.heads {W : World} {gl ga ha hs : Nat} {P : Par} {σ : Ar} {sp : List Sp} (k : LkAt W gl ga ha hs P σ sp) : (∃ c : Nat, W.cell? ⟨gl, 0, none⟩ = some (.pointer (some ⟨ga, 0, none⟩)) ∧ W.cell? ⟨gl, 1, none⟩ = some (.int .i64 P.tail) ∧ W.cell? ⟨gl, 2, none⟩ = some (.slice (some ⟨hs, 0, none⟩) sp.length c)) ∧ sp.length ≤ 32 := by
  obtain ⟨_, _, k3, ⟨c, k4⟩, _⟩ := k
  exact ⟨⟨c, blk_cell k4 0 (by simp), blk_cell k4 1 (by simp), blk_cell k4 2 (by simp)⟩, k3⟩
section
variable (gl ga ha hs : Nat) (P : Par) (σ : Ar) (sp : List Sp) (w : World) (H : LkAt w gl ga ha hs P σ sp)
include H
end

end Go.Proofs.YtfnmggmgdmokcaaGreatDoor.Mc

/- Package mcs: a slot comes in, and goes out, by a step. -/
namespace Go.Proofs.YtfnmggmgdmokcaaGreatDoor.Mc
open Go.RowKit Go.Proofs.YtfnmggmgdmokcaaGreatDoor.Ara Go.Proofs.YtfnmggmgdmokcaaGreatDoor.Lok

def pcOk (p : Int) : Prop := p = 0 ∨ p = 1 ∨ p = 2 ∨ p = 3 ∨ p = 4 ∨ p = 5 ∨ p = 10 ∨ p = 11 ∨ p = 12 ∨ p = 13 ∨ p = 14
def Num (P : Par) (σ : Ar) (sp : List Sp) : Prop := (1 ≤ P.tail ∧ P.tail ≤ 4096) ∧ (∀ k (h : k < sp.length), (0 ≤ sp[k].a ∧ sp[k].a ≤ 4096) ∧ pcOk sp[k].pc) ∧ σ.ops ≤ 1000000
section
variable (gl ga ha hs : Nat) (P : Par) (σ : Ar) (sp : List Sp) (w : World) (H : LkAt w gl ga ha hs P σ sp) (hP : 1 ≤ P.tail ∧ P.tail ≤ 4096)
include H hP
end
section
variable (gl ga ha hs : Nat) (P : Par) (σ : Ar) (sp : List Sp) (w : World) (H : LkAt w gl ga ha hs P σ sp) (hN : Num P σ sp) (k : Nat) (hk : k < sp.length)
include H hN
end
end Go.Proofs.YtfnmggmgdmokcaaGreatDoor.Mc

/- Package mcs: Step, Alone. -/
namespace Go.Proofs.YtfnmggmgdmokcaaGreatDoor.Mc
open Go.RowKit Go.Proofs.YtfnmggmgdmokcaaGreatDoor.Ara Go.Proofs.YtfnmggmgdmokcaaGreatDoor.Lok

section
variable (gl ga ha hs : Nat) (P : Par) (σ : Ar) (sp : List Sp) (w : World) (H : LkAt w gl ga ha hs P σ sp)
include H
end
end Go.Proofs.YtfnmggmgdmokcaaGreatDoor.Mc

/- Layer 18's law: do. -/
namespace Go.Proofs.YtfnmggmgdmokcaaGreatDoor.Mc
open Go.RowKit Go.Proofs.YtfnmggmgdmokcaaGreatDoor.Ara Go.Proofs.YtfnmggmgdmokcaaGreatDoor.Lok

end Go.Proofs.YtfnmggmgdmokcaaGreatDoor.Mc

/- Package mcs: New. -/
namespace Go.Proofs.YtfnmggmgdmokcaaGreatDoor.Mc
open Go.RowKit Go.Proofs.YtfnmggmgdmokcaaGreatDoor.Ara Go.Proofs.YtfnmggmgdmokcaaGreatDoor.Lok

theorem infoSp : (Tryz.prog.info? 142).map (fun i => (i.zero, i.size, i.bytes)) = some (some (.agg #[.int .i64 0, .int .i64 0, .int .i64 0, .int .i64 0]), 4, 32) := by kernel_rfl
def zeroS (n : Nat) : List Sp := List.replicate n sp0
theorem zeroS_flat (n : Nat) : ((List.replicate n ((Value.agg #[.int .i64 0, .int .i64 0, .int .i64 0, .int .i64 0]).cells.toList)).flatten).toArray = ((zeroS n).flatMap decSp).toArray := by
  congr 1
  induction n with
  | zero => rfl
  | succ n ih => rw [List.replicate_succ, List.flatten_cons, ih, zeroS, zeroS, List.replicate_succ, List.flatMap_cons]; rfl
theorem make_spots (n : Nat) (h : n ≤ 65536) (W : World) : (Instr.makeSlice 63 (.int .i64 (n : Int)) (.int .i64 (n : Int))).run Tryz.prog W = .ok (.slice (some ⟨W.heap.size, 0, none⟩) n n) (W.alloc (.cells ((zeroS n).flatMap decSp).toArray 142)) := by
  rw [run_make_rows (P := Tryz.prog) 63 142 (.agg #[.int .i64 0, .int .i64 0, .int .i64 0, .int .i64 0]) 4 32 Tryz.underlying63 infoSp rfl .i64 .i64 n (by omega) (by omega) W, zeroS_flat]
theorem spAt_new (W : World) (n : Nat) : SpAt (W.alloc (.cells ((zeroS n).flatMap decSp).toArray 142)) W.heap.size (zeroS n) :=
  ⟨_, blk_new _ _, by rw [List.take_of_length_le (by rw [flat_len decSp_len]; omega)]⟩
set_option maxHeartbeats 4000000 in
set_option maxRecDepth 100000 in
theorem new_lk (ga ha : Nat) (σ σ1 : Ar) (w : World) (H : ArAt w ga ha σ) (hh : ha < w.heap.size) (n : Nat) (n1 : 1 ≤ n) (n2 : n ≤ 32) (next : Int) (x1 : 1 ≤ next) (x2 : next ≤ 4096)
    (ht : σ.take (1 + 2 * (n : Int)) = ((next, 0), σ1)) (ho : σ1.ops ≤ 1000000) :
    Calls Tryz.prog 37 #[.pointer (some ⟨ga, 0, none⟩), .int .i64 (n : Int)] w fun e w' => ∃ gl hs, e = .returned (.tuple #[.pointer (some ⟨gl, 0, none⟩), .int .i64 0]) ∧ LkAt w' gl ga ha hs ⟨next⟩ σ1 (zeroS n) ∧ w.heap.size ≤ gl ∧ w.heap.size ≤ hs ∧ Mod [ga, ha] w w' := by
  have HT := take_any ga ha σ w H (1 + 2 * (n : Int))
  rw [ht] at HT
  replace HT := Lib.hid HT
  have hmk := fun W => make_spots n (by omega) W
  have hga := H.lt
  have i1 : (1 : Int) ≤ (n : Int) := by omega
  have i2 : (n : Int) ≤ 32 := by omega
  have e1 : IntKind.i64.wrap (2 * (n : Int)) = 2 * (n : Int) := IntWalk.i64_in _ (by omega)
  have e2 : IntKind.i64.wrap (1 + 2 * (n : Int)) = 1 + 2 * (n : Int) := IntWalk.i64_in _ (by omega)
  clear H ht ho
  go_enter Tryz.func37, Tryz.ntmps37
  go_wp2_with fail
  refine HT.out.mono ?_
  rintro e w2 ⟨rfl, h2, hm2⟩
  have H2 := Lib.hid h2
  clear h2
  have hz2 := hm2.size
  have hK : LkAt ((w2.alloc (.cells ((zeroS n).flatMap decSp).toArray 142)).alloc (.cells #[.pointer (some ⟨ga, 0, none⟩), .int .i64 next, .slice (some ⟨w2.heap.size, 0, none⟩) n n] 138)) (w2.heap.size + 1) ga ha w2.heap.size ⟨next⟩ σ1 (zeroS n) := by
    have hb := (below_new w2 (.cells ((zeroS n).flatMap decSp).toArray 142))
    have hb2 := below_new (w2.alloc (.cells ((zeroS n).flatMap decSp).toArray 142)) (.cells #[.pointer (some ⟨ga, 0, none⟩), .int .i64 next, .slice (some ⟨w2.heap.size, 0, none⟩) n n] 138)
    have hbl := blk_new (w2.alloc (.cells ((zeroS n).flatMap decSp).toArray 142)) (.cells #[.pointer (some ⟨ga, 0, none⟩), .int .i64 next, .slice (some ⟨w2.heap.size, 0, none⟩) n n] 138)
    have hzl : (zeroS n).length = n := by simp [zeroS]
    refine ⟨(H2.out.step hb).step hb2, (spAt_new w2 n).mod (S := []) (Mod.of_below hb2) (by simp), by omega, ⟨n, ?_⟩, by omega, by omega, by omega, by omega, by omega⟩
    rw [hzl]
    simpa using hbl
  have hmm : Mod [ga, ha] w ((w2.alloc (.cells ((zeroS n).flatMap decSp).toArray 142)).alloc (.cells #[.pointer (some ⟨ga, 0, none⟩), .int .i64 next, .slice (some ⟨w2.heap.size, 0, none⟩) n n] 138)) := (hm2.alloc _).alloc _
  have HK := Lib.hid hK
  clear H2 hm2 hK
  have e0 : (w2.alloc (.cells ((zeroS n).flatMap decSp).toArray 142)).heap.size = w2.heap.size + 1 := by simp
  go_wp2_with fail
  go_ret2
  exact ⟨w2.heap.size + 1, w2.heap.size, rfl, HK.out, by omega, hz2, hmm⟩
end Go.Proofs.YtfnmggmgdmokcaaGreatDoor.Mc

/- Package parted, as Lean has it: no two slots hold at once. -/
namespace Go.Proofs.YtfnmggmgdmokcaaGreatDoor.Pt
open Go.RowKit Go.Proofs.YtfnmggmgdmokcaaGreatDoor.Ara Go.Proofs.YtfnmggmgdmokcaaGreatDoor.Lok

structure Par where
  next : Int
  parts : Int
def place (P : Par) (t : Int) : Int := P.next + 1 + t % P.parts
def stepP (P : Par) (σ : Ar) (sp : List Sp) (i : Int) : Bool × Ar × List Sp :=
  if (spOf sp i).pc = 1 then (false, σ.op 5 P.next true (σ.get P.next + 1), sp.set i.toNat { spOf sp i with pc := 2, a := σ.get P.next })
  else if (spOf sp i).pc = 2 then (σ.get (place P (spOf sp i).a) == (spOf sp i).a + 1, σ.op 1 (place P (spOf sp i).a) false 0, if σ.get (place P (spOf sp i).a) = (spOf sp i).a + 1 then sp.set i.toNat { spOf sp i with pc := 10 } else sp)
  else if (spOf sp i).pc = 11 then (true, σ.op 2 (place P ((spOf sp i).a + 1)) true ((spOf sp i).a + 2), sp.set i.toNat { spOf sp i with pc := 0 })
  else (false, σ, sp)
def aloneP (P : Par) (σ : Ar) (sp : List Sp) (i : Int) : Bool × Ar :=
  if (spOf sp i).pc = 10 then (σ.get P.next == (spOf sp i).a + 1, σ.op 1 P.next false 0) else (false, σ)
def doP (P : Par) (σ : Ar) (sp : List Sp) (kd i : Int) : Bool × Ar × List Sp :=
  if kd = 0 then stepP P σ sp i else if kd = 1 then (turnB sp i 0, σ, turnS sp i 0 1) else if kd = 2 then (turnB sp i 10, σ, turnS sp i 10 11)
  else if kd = 3 then ((aloneP P σ sp i).1, (aloneP P σ sp i).2, sp) else (false, σ, sp)

def inq (s : Sp) : Prop := s.pc = 2 ∨ s.pc = 10 ∨ s.pc = 11
structure Inv (P : Par) (σ : Ar) (sp : List Sp) (S T : Nat) : Prop where
  hl : σ.t ≤ σ.ws.length
  p1 : 1 ≤ P.parts
  p2 : P.parts ≤ 32
  n1 : 1 ≤ P.next
  n2 : P.next + P.parts ≤ σ.t
  gT : σ.get P.next = T
  le : S ≤ T
  srv : σ.get (place P S) = S + 1
  low : ∀ x : Int, 0 ≤ x → x < P.parts → σ.get (P.next + 1 + x) ≤ S + 1
  pcs : ∀ i, (spOf sp i).pc = 0 ∨ (spOf sp i).pc = 1 ∨ inq (spOf sp i)
  tick : ∀ i, inq (spOf sp i) → (S : Int) ≤ (spOf sp i).a ∧ (spOf sp i).a < T
  hold : ∀ i, (spOf sp i).pc = 10 ∨ (spOf sp i).pc = 11 → (spOf sp i).a = S
  inj : ∀ i j, inq (spOf sp i) → inq (spOf sp j) → (spOf sp i).a = (spOf sp j).a → i = j
  all : ∀ t : Int, S ≤ t → t < T → ∃ i, inq (spOf sp i) ∧ (spOf sp i).a = t
  rng : ∀ i, 0 ≤ (spOf sp i).a ∧ (spOf sp i).a ≤ T
theorem place_in {P : Par} (h : 1 ≤ P.parts) (t : Int) : ∃ x, 0 ≤ x ∧ x < P.parts ∧ place P t = P.next + 1 + x :=
  ⟨t % P.parts, Int.emod_nonneg _ (by omega), Int.emod_lt_of_pos _ (by omega), rfl⟩
theorem Inv.has {P : Par} {σ : Ar} {sp : List Sp} {S T : Nat} (h : Inv P σ sp S T) (t : Int) : σ.has (place P t) = true := by
  obtain ⟨x, x0, x1, e⟩ := place_in h.p1 t
  rw [e]
  have := h.n1
  have := h.n2
  simp [Ar.has]
  omega
theorem Inv.hasN {P : Par} {σ : Ar} {sp : List Sp} {S T : Nat} (h : Inv P σ sp S T) : σ.has P.next = true := by
  have := h.n1
  have := h.n2
  have := h.p1
  simp [Ar.has]
  omega
theorem Inv.read {P : Par} {σ : Ar} {sp : List Sp} {S T : Nat} (h : Inv P σ sp S T) (p v : Int) : Inv P (σ.op 1 p false v) sp S T := by
  refine { h with hl := ?_, n2 := ?_, gT := ?_, srv := ?_, low := ?_ }
  · rw [op_t, op_len]; exact h.hl
  · rw [op_t]; exact h.n2
  · rw [get_read σ h.hl]; exact h.gT
  · rw [get_read σ h.hl]; exact h.srv
  · intro x h0 h1
    rw [get_read σ h.hl]
    exact h.low x h0 h1
theorem Inv.idle {P : Par} {σ : Ar} {sp sp' : List Sp} {S T : Nat} (h : Inv P σ sp S T) (i : Int) (s' : Sp) (hs : ∀ j, spOf sp' j = if j = i then s' else spOf sp j) (h0 : ¬ inq (spOf sp i)) (h1 : s'.pc = 0 ∨ s'.pc = 1) (ha : s'.a = (spOf sp i).a) : Inv P σ sp' S T := by
  have h2 : ¬ inq s' := by unfold inq; omega
  refine { h with pcs := fun j => ?_, tick := fun j hj => ?_, hold := fun j hj => ?_, inj := fun j k hj hk e => ?_, all := fun t t0 t1 => ?_, rng := fun j => ?r }
  case r =>
    rw [hs]; split
    · rw [ha]; exact h.rng i
    · exact h.rng j
  · rw [hs]; split
    · omega
    · exact h.pcs j
  · rw [hs] at hj ⊢; split at hj
    · exact absurd hj h2
    · rename_i e; rw [if_neg e]; exact h.tick j hj
  · rw [hs] at hj ⊢; split at hj
    · omega
    · rename_i e; rw [if_neg e]; exact h.hold j hj
  · rw [hs] at hj hk e; rw [hs k] at e
    split at hj
    · exact absurd hj h2
    · split at hk
      · exact absurd hk h2
      · rename_i e1 e2
        rw [if_neg e1, if_neg e2] at e
        exact h.inj j k hj hk e
  · obtain ⟨k, k1, k2⟩ := h.all t t0 t1
    refine ⟨k, ?_⟩
    have : k ≠ i := fun e => h0 (e ▸ k1)
    rw [hs, if_neg this]
    exact ⟨k1, k2⟩
theorem Inv.keeps {P : Par} {σ : Ar} {sp sp' : List Sp} {S T : Nat} (h : Inv P σ sp S T) (i : Int) (s' : Sp) (hs : ∀ j, spOf sp' j = if j = i then s' else spOf sp j) (h0 : inq (spOf sp i)) (h1 : s'.pc = 10 ∨ s'.pc = 11) (ha : s'.a = (spOf sp i).a) (hS : s'.a = S) : Inv P σ sp' S T := by
  have h2 : inq s' := by unfold inq; omega
  have hh : ∀ j, inq (spOf sp' j) ↔ inq (spOf sp j) := by
    intro j; rw [hs]; split
    · rename_i e; subst e; exact ⟨fun _ => h0, fun _ => h2⟩
    · exact Iff.rfl
  have hA : ∀ j, (spOf sp' j).a = (spOf sp j).a := by
    intro j; rw [hs]; split
    · rename_i e; subst e; exact ha
    · rfl
  refine { h with pcs := fun j => ?_, tick := fun j hj => ?_, hold := fun j hj => ?_, inj := fun j k hj hk e => ?_, all := fun t t0 t1 => ?_, rng := fun j => ?r }
  case r => rw [hA]; exact h.rng j
  · rw [hs]; split
    · exact .inr (.inr h2)
    · exact h.pcs j
  · rw [hA]; exact h.tick j ((hh j).1 hj)
  · rw [hs] at hj ⊢; split at hj
    · rename_i e; rw [if_pos e]; exact hS
    · rename_i e; rw [if_neg e]; exact h.hold j hj
  · rw [hA, hA] at e; exact h.inj j k ((hh j).1 hj) ((hh k).1 hk) e
  · obtain ⟨k, k1, k2⟩ := h.all t t0 t1
    exact ⟨k, (hh k).2 k1, by rw [hA]; exact k2⟩
theorem Inv.takes {P : Par} {σ : Ar} {sp sp' : List Sp} {S T : Nat} (h : Inv P σ sp S T) (i : Int) (s' : Sp) (hs : ∀ j, spOf sp' j = if j = i then s' else spOf sp j) (h0 : ¬ inq (spOf sp i)) (h1 : s'.pc = 2) (ha : s'.a = T) : Inv P (σ.op 5 P.next true (T + 1)) sp' S (T + 1) := by
  have hg := fun q => get_op σ h.hl 5 P.next ((T : Int) + 1) true q
  simp only [h.hasN, true_and] at hg
  have h2 : inq s' := .inl h1
  refine { p1 := h.p1, p2 := h.p2, n1 := h.n1, le := by have := h.le; omega, hl := ?_, n2 := ?_, gT := ?_, srv := ?_, low := ?_, pcs := fun j => ?_, tick := fun j hj => ?_, hold := fun j hj => ?_, inj := fun j k hj hk e => ?_, all := fun t t0 t1 => ?_, rng := fun j => ?r }
  case r =>
    have hr := h.rng j
    rw [hs]; split
    · rw [ha]; have := h.rng i; omega
    · omega
  · rw [op_t, op_len]; exact h.hl
  · rw [op_t]; exact h.n2
  · rw [hg, if_pos rfl]; simp
  · obtain ⟨x, x0, x1, e⟩ := place_in h.p1 S
    have := h.srv
    rw [hg, if_neg (by rw [e]; omega)]
    exact this
  · intro x x0 x1
    rw [hg, if_neg (by omega)]
    exact h.low x x0 x1
  · rw [hs]; split
    · exact .inr (.inr h2)
    · exact h.pcs j
  · rw [hs] at hj ⊢; split at hj
    · rename_i e; rw [if_pos e, ha]; have := h.le; omega
    · rename_i e; rw [if_neg e]; have := h.tick j hj; omega
  · rw [hs] at hj ⊢; split at hj
    · omega
    · rename_i e; rw [if_neg e]; exact h.hold j hj
  · rw [hs] at hj hk e; rw [hs k] at e
    split at hj
    · split at hk
      · omega
      · rename_i e1 e2
        rw [if_pos e1, if_neg e2, ha] at e
        have := h.tick k hk
        omega
    · split at hk
      · rename_i e1 e2
        rw [if_neg e1, if_pos e2, ha] at e
        have := h.tick j hj
        omega
      · rename_i e1 e2
        rw [if_neg e1, if_neg e2] at e
        exact h.inj j k hj hk e
  · by_cases e : t = T
    · exact ⟨i, by rw [hs, if_pos rfl]; exact ⟨h2, by rw [ha, e]⟩⟩
    · obtain ⟨k, k1, k2⟩ := h.all t t0 (by omega)
      refine ⟨k, ?_⟩
      have : k ≠ i := fun e => h0 (e ▸ k1)
      rw [hs, if_neg this]
      exact ⟨k1, k2⟩
theorem Inv.passes {P : Par} {σ : Ar} {sp sp' : List Sp} {S T : Nat} (h : Inv P σ sp S T) (i : Int) (s' : Sp) (hs : ∀ j, spOf sp' j = if j = i then s' else spOf sp j) (h0 : (spOf sp i).pc = 10 ∨ (spOf sp i).pc = 11) (h1 : s'.pc = 0) (ha : s'.a = (spOf sp i).a) : Inv P (σ.op 2 (place P ((S : Int) + 1)) true (S + 2)) sp' (S + 1) T := by
  have hg := fun q => get_op σ h.hl 2 (place P ((S : Int) + 1)) ((S : Int) + 2) true q
  simp only [h.has, true_and] at hg
  have hq : inq (spOf sp i) := .inr h0
  have hS := h.hold i h0
  have hT := h.tick i hq
  have h2 : ¬ inq s' := by unfold inq; omega
  obtain ⟨y, y0, y1, ey⟩ := place_in h.p1 ((S : Int) + 1)
  refine { p1 := h.p1, p2 := h.p2, n1 := h.n1, le := by omega, hl := ?_, n2 := ?_, gT := ?_, srv := ?_, low := ?_, pcs := fun j => ?_, tick := fun j hj => ?_, hold := fun j hj => ?_, inj := fun j k hj hk e => ?_, all := fun t t0 t1 => ?_, rng := fun j => ?r }
  case r =>
    have hr := h.rng j
    rw [hs]; split
    · rw [ha]; have := h.rng i; omega
    · omega
  · rw [op_t, op_len]; exact h.hl
  · rw [op_t]; exact h.n2
  · rw [hg, if_neg (by rw [ey]; omega)]; exact h.gT
  · rw [hg, if_pos (by simp)]; simp; omega
  · intro x x0 x1
    rw [hg]
    have := h.low x x0 x1
    split <;> omega
  · rw [hs]; split
    · exact .inl h1
    · exact h.pcs j
  · rw [hs] at hj ⊢; split at hj
    · exact absurd hj h2
    · rename_i e
      rw [if_neg e]
      have h3 := h.tick j hj
      have h4 : (spOf sp j).a ≠ (spOf sp i).a := fun e' => e (h.inj j i hj hq e')
      omega
  · rw [hs] at hj ⊢; split at hj
    · omega
    · rename_i e
      exact absurd (h.inj j i (.inr hj) hq (by rw [h.hold j hj, hS])) e
  · rw [hs] at hj hk e; rw [hs k] at e
    split at hj
    · exact absurd hj h2
    · split at hk
      · exact absurd hk h2
      · rename_i e1 e2
        rw [if_neg e1, if_neg e2] at e
        exact h.inj j k hj hk e
  · obtain ⟨k, k1, k2⟩ := h.all t (by omega) t1
    refine ⟨k, ?_⟩
    have : k ≠ i := fun e => by subst e; omega
    rw [hs, if_neg this]
    exact ⟨k1, k2⟩
theorem Inv.served {P : Par} {σ : Ar} {sp : List Sp} {S T : Nat} (h : Inv P σ sp S T) (i : Int) (h0 : inq (spOf sp i)) (h1 : σ.get (place P (spOf sp i).a) = (spOf sp i).a + 1) : (spOf sp i).a = S := by
  obtain ⟨x, x0, x1, e⟩ := place_in h.p1 (spOf sp i).a
  have := h.low x x0 x1
  rw [e] at h1
  have := h.tick i h0
  omega
theorem step_inv {P : Par} {σ : Ar} {sp : List Sp} {S T : Nat} (h : Inv P σ sp S T) (i : Int) : ∃ S' T', T' ≤ T + 1 ∧ Inv P (stepP P σ sp i).2.1 (stepP P σ sp i).2.2 S' T' := by
  unfold stepP
  by_cases h1 : (spOf sp i).pc = 1
  · rw [if_pos h1]
    obtain ⟨i0, i1⟩ := spOf_range (sp := sp) (i := i) (by omega)
    refine ⟨S, T + 1, Nat.le_refl _, ?_⟩
    have := h.takes i _ (spOf_set i0 i1 { spOf sp i with pc := 2, a := σ.get P.next }) (by unfold inq; omega) rfl h.gT
    rw [← h.gT] at this
    exact this
  rw [if_neg h1]
  by_cases h2 : (spOf sp i).pc = 2
  · rw [if_pos h2]
    obtain ⟨i0, i1⟩ := spOf_range (sp := sp) (i := i) (by omega)
    refine ⟨S, T, Nat.le_succ _, ?_⟩
    by_cases h3 : σ.get (place P (spOf sp i).a) = (spOf sp i).a + 1
    · simp only [h3, if_true]
      exact (h.keeps i _ (spOf_set i0 i1 { spOf sp i with pc := 10 }) (.inl h2) (.inl rfl) rfl (h.served i (.inl h2) h3)).read _ _
    · simp only [h3, if_false]
      exact h.read _ _
  rw [if_neg h2]
  by_cases h3 : (spOf sp i).pc = 11
  · rw [if_pos h3]
    obtain ⟨i0, i1⟩ := spOf_range (sp := sp) (i := i) (by omega)
    refine ⟨S + 1, T, Nat.le_succ _, ?_⟩
    have := h.passes i _ (spOf_set i0 i1 { spOf sp i with pc := 0 }) (.inr h3) rfl rfl
    have e := h.hold i (.inr h3)
    rw [← e] at this
    exact this
  rw [if_neg h3]
  exact ⟨S, T, Nat.le_succ _, h⟩
theorem do_inv {P : Par} {σ : Ar} {sp : List Sp} {S T : Nat} (h : Inv P σ sp S T) (kd i : Int) : ∃ S' T', T' ≤ T + 1 ∧ Inv P (doP P σ sp kd i).2.1 (doP P σ sp kd i).2.2 S' T' := by
  unfold doP
  split
  · exact step_inv h i
  split
  · refine ⟨S, T, Nat.le_succ _, ?_⟩
    cases ht : turnB sp i 0
    · simp only [turn_no 1 ht]; exact h
    · have hp := (turn_true ht).2
      exact h.idle i _ (spOf_turn 1 ht) (by unfold inq; omega) (.inr rfl) rfl
  split
  · refine ⟨S, T, Nat.le_succ _, ?_⟩
    cases ht : turnB sp i 10
    · simp only [turn_no 11 ht]; exact h
    · have hp := (turn_true ht).2
      exact h.keeps i _ (spOf_turn 11 ht) (.inr (.inl hp)) (.inr rfl) rfl (h.hold i (.inl hp))
  split
  · refine ⟨S, T, Nat.le_succ _, ?_⟩
    unfold aloneP
    split
    · exact h.read _ _
    · exact h
  · exact ⟨S, T, Nat.le_succ _, h⟩
theorem Inv.one {P : Par} {σ : Ar} {sp : List Sp} {S T : Nat} (h : Inv P σ sp S T) (n : Nat) : cnt (fun s => s.pc == 10) sp n ≤ 1 := by
  refine cnt_one _ _ (fun i j hi hj => ?_) n
  simp only [beq_iff_eq] at hi hj
  exact h.inj i j (.inr (.inl hi)) (.inr (.inl hj)) (by rw [h.hold i (.inl hi), h.hold j (.inl hj)])
theorem Inv.behind {P : Par} {σ : Ar} {sp : List Sp} {S T : Nat} (h : Inv P σ sp S T) (i : Int) (hp : (spOf sp i).pc = 10) (ha : (aloneP P σ sp i).1 = false) : 0 < cnt (fun s => decide (0 < s.pc) && decide (s.pc < 10)) sp sp.length := by
  unfold aloneP at ha
  rw [if_pos hp, h.gT, h.hold i (.inl hp)] at ha
  simp at ha
  have hT := h.tick i (.inr (.inl hp))
  have hS := h.hold i (.inl hp)
  obtain ⟨k, k1, k2⟩ := h.all (S + 1) (by omega) (by omega)
  have h3 : (spOf sp k).pc = 2 := by
    rcases k1 with k1 | k1
    · exact k1
    · have := h.hold k k1
      omega
  obtain ⟨r0, r1⟩ := spOf_range (sp := sp) (i := k) (by omega)
  exact cnt_some _ _ k (by rw [h3]; rfl) r0 _ r1
theorem zero_get (n t : Nat) (o k p : Int) (ops : Nat) (wr : Bool) (q : Int) : (⟨zerosW n, t, ops, k, p, wr⟩ : Ar).get q = 0 := by
  unfold Ar.get
  split
  · simp [zerosW, List.getD_eq_getElem?_getD, List.getElem?_replicate]
    split <;> rfl
  · rfl
theorem zero_spot (n : Nat) (i : Int) : spOf (List.replicate n sp0) i = sp0 := by
  unfold spOf
  split
  · simp [List.getD_eq_getElem?_getD, List.getElem?_replicate]
    split <;> rfl
  · rfl
theorem inv_start (parts : Int) (p1 : 1 ≤ parts) (p2 : parts ≤ 32) (n : Nat) : Inv ⟨1, parts⟩ ((⟨zerosW 100, (1 + parts).toNat, 0, 0, 0, false⟩ : Ar).op 2 (place ⟨1, parts⟩ 0) true 1) (List.replicate n sp0) 0 0 := by
  have hh : (⟨zerosW 100, (1 + parts).toNat, 0, 0, 0, false⟩ : Ar).has (place ⟨1, parts⟩ 0) = true := by
    obtain ⟨x, x0, x1, e⟩ := place_in (P := ⟨1, parts⟩) p1 0
    rw [e]
    simp only at x1
    simp [Ar.has]
    omega
  have hg := fun q => get_op (⟨zerosW 100, (1 + parts).toNat, 0, 0, 0, false⟩ : Ar) (by simp [zerosW]; omega) 2 (place ⟨1, parts⟩ 0) 1 true q
  simp only [hh, true_and, zero_get 100 (1 + parts).toNat 0 0 0 0 false] at hg
  have hs := zero_spot n
  have hq : ∀ i, ¬ inq (spOf (List.replicate n sp0) i) := by
    intro i; rw [hs]; unfold inq sp0; simp
  refine { p1 := p1, p2 := p2, n1 := Int.le_refl _, le := Nat.le_refl _, hl := ?_, n2 := ?_, gT := ?_, srv := ?_, low := ?_, pcs := fun i => ?_, tick := fun i hi => absurd hi (hq i), hold := fun i hi => absurd (Or.inr hi) (hq i), inj := fun i j hi => absurd hi (hq i), all := fun t t0 t1 => ?_, rng := fun i => ?_ }
  · rw [op_t, op_len]; simp [zerosW]; omega
  · rw [op_t]; show 1 + parts ≤ _; simp; omega
  · rw [hg]
    obtain ⟨x, x0, x1, e⟩ := place_in (P := ⟨1, parts⟩) p1 0
    rw [if_neg (by rw [e]; show ¬ (1 : Int) = 1 + 1 + x; omega)]
    rfl
  · rw [hg, if_pos (show place ⟨1, parts⟩ ((0 : Nat) : Int) = place ⟨1, parts⟩ 0 from rfl)]; rfl
  · intro x x0 x1
    rw [hg]
    split <;> simp
  · left; rw [hs]; rfl
  · omega
  · rw [hs]; exact ⟨Int.le_refl _, Int.le_refl _⟩
end Go.Proofs.YtfnmggmgdmokcaaGreatDoor.Pt

/- Package parted: slots, spots, turns. -/
namespace Go.Proofs.YtfnmggmgdmokcaaGreatDoor.Pt
open Go.RowKit Go.Proofs.YtfnmggmgdmokcaaGreatDoor.Ara Go.Proofs.YtfnmggmgdmokcaaGreatDoor.Lok

def LkAt (W : World) (gl ga ha hs : Nat) (P : Par) (σ : Ar) (sp : List Sp) : Prop :=
  ArAt W ga ha σ ∧ SpAt W hs sp ∧ sp.length ≤ 32 ∧ (∃ c : Nat, W.heap[gl]? = some (.cells #[.pointer (some ⟨ga, 0, none⟩), .int .i64 P.next, .int .i64 P.parts, .slice (some ⟨hs, 0, none⟩) sp.length c] 135 (0, 0))) ∧ gl ≠ ga ∧ gl ≠ ha ∧ gl ≠ hs ∧ hs ≠ ga ∧ hs ≠ ha
theorem LkAt.mod {S : List Nat} {W W' : World} {gl ga ha hs : Nat} {P : Par} {σ : Ar} {sp : List Sp} (k : LkAt W gl ga ha hs P σ sp) (hm : Mod S W W') (h1 : gl ∉ S) (h2 : ga ∉ S) (h3 : ha ∉ S) (h4 : hs ∉ S) : LkAt W' gl ga ha hs P σ sp := by
  obtain ⟨k1, k2, k3, ⟨c, k4⟩, k5⟩ := k
  exact ⟨k1.mod hm h2 h3, k2.mod hm h4, k3, ⟨c, hm.blk k4 h1⟩, k5⟩
theorem LkAt.same {W W' : World} {gl ga ha hs : Nat} {P : Par} {σ : Ar} {sp : List Sp} (k : LkAt W gl ga ha hs P σ sp) (hb : Below W.heap.size W W') : LkAt W' gl ga ha hs P σ sp :=
  k.mod (S := []) (Mod.of_below hb) (by simp) (by simp) (by simp) (by simp)
theorem LkAt.drewN {W : World} {gl ga ha hs : Nat} {P : Par} {σ : Ar} {sp : List Sp} (k : LkAt W gl ga ha hs P σ sp) (n : Nat) : LkAt (W.drewN n) gl ga ha hs P σ sp := k
theorem LkAt.arena {W W' : World} {gl ga ha hs : Nat} {P : Par} {σ σ' : Ar} {sp : List Sp} (k : LkAt W gl ga ha hs P σ sp) (ha' : ArAt W' ga ha σ') (hm : Mod [ga, ha] W W') : LkAt W' gl ga ha hs P σ' sp := by
  obtain ⟨_, k2, k3, ⟨c, k4⟩, d1, d2, d3, d4, d5⟩ := k
  exact ⟨ha', k2.mod hm (by simp; omega), k3, ⟨c, hm.blk k4 (by simp; omega)⟩, d1, d2, d3, d4, d5⟩
theorem LkAt.spots {W W' : World} {gl ga ha hs : Nat} {P : Par} {σ : Ar} {sp sp' : List Sp} (k : LkAt W gl ga ha hs P σ sp) (hs' : SpAt W' hs sp') (hm : Mod [hs] W W') (hl : sp'.length = sp.length) : LkAt W' gl ga ha hs P σ sp' := by
  obtain ⟨k1, _, k3, ⟨c, k4⟩, d1, d2, d3, d4, d5⟩ := k
  refine ⟨k1.mod hm (by simp; omega) (by simp; omega), hs', by omega, ⟨c, ?_⟩, d1, d2, d3, d4, d5⟩
  have := hm.blk k4 (by simp; omega)
  rw [hl]
  exact this
theorem LkAt.heads {W : World} {gl ga ha hs : Nat} {P : Par} {σ : Ar} {sp : List Sp} (k : LkAt W gl ga ha hs P σ sp) : (∃ c : Nat, W.cell? ⟨gl, 0, none⟩ = some (.pointer (some ⟨ga, 0, none⟩)) ∧ W.cell? ⟨gl, 1, none⟩ = some (.int .i64 P.next) ∧ W.cell? ⟨gl, 2, none⟩ = some (.int .i64 P.parts) ∧ W.cell? ⟨gl, 3, none⟩ = some (.slice (some ⟨hs, 0, none⟩) sp.length c)) ∧ sp.length ≤ 32 := by
  obtain ⟨_, _, k3, ⟨c, k4⟩, _⟩ := k
  exact ⟨⟨c, blk_cell k4 0 (by simp), blk_cell k4 1 (by simp), blk_cell k4 2 (by simp), blk_cell k4 3 (by simp)⟩, k3⟩
section
variable (gl ga ha hs : Nat) (P : Par) (σ : Ar) (sp : List Sp) (w : World) (H : LkAt w gl ga ha hs P σ sp)
include H
end

end Go.Proofs.YtfnmggmgdmokcaaGreatDoor.Pt

/- Package parted: place, served, last, Alone, Step. -/
namespace Go.Proofs.YtfnmggmgdmokcaaGreatDoor.Pt
open Go.RowKit Go.Proofs.YtfnmggmgdmokcaaGreatDoor.Ara Go.Proofs.YtfnmggmgdmokcaaGreatDoor.Lok

def POk (P : Par) : Prop := 1 ≤ P.parts ∧ P.parts ≤ 32 ∧ 1 ≤ P.next ∧ P.next ≤ 4096
section
variable (gl ga ha hs : Nat) (P : Par) (σ : Ar) (sp : List Sp) (w : World) (H : LkAt w gl ga ha hs P σ sp) (hP : POk P)
include H hP
set_option maxRecDepth 100000 in
theorem place_lk (t : Int) (t0 : 0 ≤ t) (t1 : t ≤ 2000000) : Calls Tryz.prog 54 #[.pointer (some ⟨gl, 0, none⟩), .int .i64 t] w fun e w' => e = .returned (.int .i64 (place P t)) ∧ ∃ n, w' = w.drewN n := by
  obtain ⟨⟨cc, q0, q1, q2, q3⟩, hl⟩ := H.heads
  obtain ⟨p1, p2, p3, p4⟩ := hP
  unfold place
  have m0 : 0 ≤ t % P.parts := Int.emod_nonneg _ (by omega)
  have m1 : t % P.parts < P.parts := Int.emod_lt_of_pos _ (by omega)
  have e0 : t.tmod P.parts = t % P.parts := Int.tmod_eq_emod_of_nonneg t0
  have e1 : IntKind.i64.wrap (P.next + 1) = P.next + 1 := IntWalk.i64_in _ (by omega)
  have e2 : IntKind.i64.wrap (t % P.parts) = t % P.parts := IntWalk.i64_in _ (by omega)
  have e3 : IntKind.i64.wrap (P.next + 1 + t % P.parts) = P.next + 1 + t % P.parts := IntWalk.i64_in _ (by omega)
  have e4 : ¬ P.parts = 0 := by omega
  have e5 : (P.parts == 0) = false := ibeq_no e4
  generalize t % P.parts = m at *
  clear H
  go_enter Tryz.func54, Tryz.ntmps54
  go_wp2_with fail
  go_quiet (fail)
  go_wp2_with fail
  go_ret
  exact ⟨rfl, _, rfl⟩
end
def SOk (sp : List Sp) : Prop := ∀ k (h : k < sp.length), 0 ≤ sp[k].a ∧ sp[k].a ≤ 1000000
section
variable (gl ga ha hs : Nat) (P : Par) (σ : Ar) (sp : List Sp) (w : World) (H : LkAt w gl ga ha hs P σ sp)
include H
end
end Go.Proofs.YtfnmggmgdmokcaaGreatDoor.Pt

/- Package parted: Step. -/
namespace Go.Proofs.YtfnmggmgdmokcaaGreatDoor.Pt
open Go.RowKit Go.Proofs.YtfnmggmgdmokcaaGreatDoor.Ara Go.Proofs.YtfnmggmgdmokcaaGreatDoor.Lok

def Num (P : Par) (σ : Ar) (sp : List Sp) : Prop := POk P ∧ SOk sp ∧ σ.ops ≤ 1000000 ∧ σ.has P.next = true ∧ 0 ≤ σ.get P.next ∧ σ.get P.next ≤ 1000000
theorem LkAt.all {W W' : World} {gl ga ha hs : Nat} {P : Par} {σ : Ar} {sp : List Sp} (k : LkAt W gl ga ha hs P σ sp) (n : Nat) (e : W' = W.drewN n) : LkAt W' gl ga ha hs P σ sp := by
  subst e
  exact k
section
variable (gl ga ha hs : Nat) (P : Par) (σ : Ar) (sp : List Sp) (w : World) (H : LkAt w gl ga ha hs P σ sp) (hN : Num P σ sp)
include H hN
end
end Go.Proofs.YtfnmggmgdmokcaaGreatDoor.Pt

/- Layer 17's law: do; New. -/
namespace Go.Proofs.YtfnmggmgdmokcaaGreatDoor.Pt
open Go.RowKit Go.Proofs.YtfnmggmgdmokcaaGreatDoor.Ara Go.Proofs.YtfnmggmgdmokcaaGreatDoor.Lok

end Go.Proofs.YtfnmggmgdmokcaaGreatDoor.Pt

/- Package parted: New. -/
namespace Go.Proofs.YtfnmggmgdmokcaaGreatDoor.Pt
open Go.RowKit Go.Proofs.YtfnmggmgdmokcaaGreatDoor.Ara Go.Proofs.YtfnmggmgdmokcaaGreatDoor.Lok

theorem may_yes (n : Int) (w : World) (h1 : 1 ≤ n) (h2 : n ≤ 32) : Calls Tryz.prog 52 #[.int .i64 n] w fun e w' => e = .returned (.bool true) ∧ w' = w := by
  have e1 : decide ((1 : Int) ≤ n) = true := decide_eq_true h1
  have e2 : decide (n ≤ (32 : Int)) = true := decide_eq_true h2
  go_enter Tryz.func52, Tryz.ntmps52
  go_wp2_with fail
  go_ret
  exact ⟨rfl, rfl⟩
theorem infoSp : (Tryz.prog.info? 142).map (fun i => (i.zero, i.size, i.bytes)) = some (some (.agg #[.int .i64 0, .int .i64 0, .int .i64 0, .int .i64 0]), 4, 32) := by kernel_rfl
def zeroS (n : Nat) : List Sp := List.replicate n sp0
theorem zeroS_flat (n : Nat) : ((List.replicate n ((Value.agg #[.int .i64 0, .int .i64 0, .int .i64 0, .int .i64 0]).cells.toList)).flatten).toArray = ((zeroS n).flatMap decSp).toArray := by
  congr 1
  induction n with
  | zero => rfl
  | succ n ih => rw [List.replicate_succ, List.flatten_cons, ih, zeroS, zeroS, List.replicate_succ, List.flatMap_cons]; rfl
theorem make_spots (n : Nat) (h : n ≤ 65536) (W : World) : (Instr.makeSlice 63 (.int .i64 (n : Int)) (.int .i64 (n : Int))).run Tryz.prog W = .ok (.slice (some ⟨W.heap.size, 0, none⟩) n n) (W.alloc (.cells ((zeroS n).flatMap decSp).toArray 142)) := by
  rw [run_make_rows (P := Tryz.prog) 63 142 (.agg #[.int .i64 0, .int .i64 0, .int .i64 0, .int .i64 0]) 4 32 Tryz.underlying63 infoSp rfl .i64 .i64 n (by omega) (by omega) W, zeroS_flat]
theorem spAt_new (W : World) (n : Nat) : SpAt (W.alloc (.cells ((zeroS n).flatMap decSp).toArray 142)) W.heap.size (zeroS n) :=
  ⟨_, blk_new _ _, by rw [List.take_of_length_le (by rw [flat_len decSp_len]; omega)]⟩
set_option maxHeartbeats 4000000 in
set_option maxRecDepth 100000 in
theorem new_lk (ga ha : Nat) (σ σ1 : Ar) (w : World) (H : ArAt w ga ha σ) (hh : ha < w.heap.size) (n : Nat) (n1 : 1 ≤ n) (n2 : n ≤ 32) (parts next : Int) (p1 : 1 ≤ parts) (p2 : parts ≤ 32) (x1 : 1 ≤ next) (x2 : next ≤ 4096)
    (ht : σ.take (1 + parts) = ((next, 0), σ1)) (ho : σ1.ops ≤ 1000000) :
    Calls Tryz.prog 36 #[.pointer (some ⟨ga, 0, none⟩), .int .i64 (n : Int), .int .i64 parts] w fun e w' => ∃ gl hs, e = .returned (.tuple #[.pointer (some ⟨gl, 0, none⟩), .int .i64 0]) ∧ LkAt w' gl ga ha hs ⟨next, parts⟩ (σ1.op 2 (place ⟨next, parts⟩ 0) true 1) (zeroS n) ∧ w.heap.size ≤ gl ∧ w.heap.size ≤ hs ∧ Mod [ga, ha] w w' := by
  have HT := Lib.hid (take_any ga ha σ w H (1 + parts))
  rw [ht] at HT
  have hmk := fun W => make_spots n (by omega) W
  have hga := H.lt
  have HM1 := Lib.hid (fun W => may_yes (n : Int) W (by omega) (by omega))
  have HM2 := Lib.hid (fun W => may_yes parts W p1 p2)
  have e1 : IntKind.i64.wrap (1 + parts) = 1 + parts := IntWalk.i64_in _ (by omega)
  have i1 : (1 : Int) ≤ (n : Int) := by omega
  have i2 : (n : Int) ≤ 32 := by omega
  have HO := Lib.hid ho
  clear H ht ho
  go_enter Tryz.func36, Tryz.ntmps36
  go_wp2_with fail
  refine (HM1.out _).mono ?_
  rintro e wx ⟨rfl, hwx⟩
  obtain rfl := hwx.symm
  go_wp2_with fail
  refine (HM2.out _).mono ?_
  rintro e wx ⟨rfl, hwx⟩
  obtain rfl := hwx.symm
  go_wp2_with fail
  refine HT.out.mono ?_
  rintro e w2 ⟨rfl, h2, hm2⟩
  have H2 := Lib.hid h2
  clear h2
  go_wp2_with fail
  have hz2 := hm2.size
  have hK : LkAt ((w2.alloc (.cells ((zeroS n).flatMap decSp).toArray 142)).alloc (.cells #[.pointer (some ⟨ga, 0, none⟩), .int .i64 next, .int .i64 parts, .slice (some ⟨w2.heap.size, 0, none⟩) n n] 135)) (w2.heap.size + 1) ga ha w2.heap.size ⟨next, parts⟩ σ1 (zeroS n) := by
    have hb := (below_new w2 (.cells ((zeroS n).flatMap decSp).toArray 142))
    have hb2 := below_new (w2.alloc (.cells ((zeroS n).flatMap decSp).toArray 142)) (.cells #[.pointer (some ⟨ga, 0, none⟩), .int .i64 next, .int .i64 parts, .slice (some ⟨w2.heap.size, 0, none⟩) n n] 135)
    have hbl := blk_new (w2.alloc (.cells ((zeroS n).flatMap decSp).toArray 142)) (.cells #[.pointer (some ⟨ga, 0, none⟩), .int .i64 next, .int .i64 parts, .slice (some ⟨w2.heap.size, 0, none⟩) n n] 135)
    have hzl : (zeroS n).length = n := by simp [zeroS]
    refine ⟨(H2.out.step hb).step hb2, (spAt_new w2 n).mod (S := []) (Mod.of_below hb2) (by simp), by omega, ⟨n, ?_⟩, by omega, by omega, by omega, by omega, by omega⟩
    rw [hzl]
    simpa using hbl
  have hmm : Mod [ga, ha] w ((w2.alloc (.cells ((zeroS n).flatMap decSp).toArray 142)).alloc (.cells #[.pointer (some ⟨ga, 0, none⟩), .int .i64 next, .int .i64 parts, .slice (some ⟨w2.heap.size, 0, none⟩) n n] 135)) := (hm2.alloc _).alloc _
  have hK := Lib.hid hK
  clear H2 hm2
  generalize (w2.alloc (.cells ((zeroS n).flatMap decSp).toArray 142)).alloc (.cells #[.pointer (some ⟨ga, 0, none⟩), .int .i64 next, .int .i64 parts, .slice (some ⟨w2.heap.size, 0, none⟩) n n] 135) = w3 at *
  have HF := Lib.hid (show w.heap.size ≤ w2.heap.size + 1 ∧ w.heap.size ≤ w2.heap.size from ⟨by omega, hz2⟩)
  clear hz2
  generalize w2.heap.size + 1 = gl at *
  generalize w2.heap.size = hs at *
  refine (place_lk gl ga ha hs ⟨next, parts⟩ σ1 _ w3 hK.out ⟨p1, p2, x1, x2⟩ 0 (by omega) (by omega)).mono ?_
  rintro e w4 ⟨rfl, m4, rfl⟩
  go_wp2_with fail
  refine (store_any ga ha σ1 _ (hK.out.drewN m4).1 HO.out (place ⟨next, parts⟩ 0) 1).mono ?_
  rintro e w5 ⟨rfl, h5, hm5⟩
  have hK5 := Lib.hid ((hK.out.drewN m4).arena h5 hm5)
  have hm6 : Mod [ga, ha] w w5 := (hmm.drewN m4).trans hm5
  clear h5 hm5 hmm hK
  go_wp2_with fail
  go_ret2
  exact ⟨gl, hs, rfl, hK5.out, HF.out.1, HF.out.2, hm6⟩
end Go.Proofs.YtfnmggmgdmokcaaGreatDoor.Pt

/- Package flat: a lock that nobody made; a lock over a word that is taken; how many words a lock takes. -/
namespace Go.Proofs.YtfnmggmgdmokcaaGreatDoor.Fl
open Go.RowKit Go.Proofs.YtfnmggmgdmokcaaGreatDoor.Ara Go.Proofs.YtfnmggmgdmokcaaGreatDoor.Lok

def NoneAt (W : World) (q : Option Addr) : Prop := q = none ∨ ∃ g, q = some ⟨g, 0, none⟩ ∧ W.cell? ⟨g, 0, none⟩ = some (.int .i64 0)
theorem NoneAt.same {W W' : World} {q : Option Addr} (h : NoneAt W q) (hb : Below W.heap.size W W') : NoneAt W' q := by
  rcases h with h | ⟨g, h1, h2⟩
  · exact .inl h
  · exact .inr ⟨g, h1, keep1 hb h2⟩
section
variable (q : Option Addr) (w : World) (H : NoneAt w q)
include H
end
def FlB (W : World) (gf : Nat) (kind : Int) (T : TypeId) (v : Value) : Prop := W.heap[gf]? = some (.cells #[.int .i64 kind, .iface T v] 117 (0, 0))
section
variable (gf : Nat) (kind : Int) (T : TypeId) (v : Value) (w : World) (H : FlB w gf kind T v) (hk : kind ≠ 0)
include H hk
end
section
variable (gf gl : Nat) (w : World) (H : FlB w gf 1 103 (.agg #[.pointer (some ⟨gl, 0, none⟩)]))
include H
end
end Go.Proofs.YtfnmggmgdmokcaaGreatDoor.Fl

/- Package flat: a lock over a word that is taken, whole; Size; Door. -/
namespace Go.Proofs.YtfnmggmgdmokcaaGreatDoor.Fl
open Go.RowKit Go.Proofs.YtfnmggmgdmokcaaGreatDoor.Ara Go.Proofs.YtfnmggmgdmokcaaGreatDoor.Lok

section
variable (gf gl ga ha hs : Nat) (P : Ta.Par) (σ : Ar) (sp : List Sp) (w : World) (H : FlB w gf 1 103 (.agg #[.pointer (some ⟨gl, 0, none⟩)])) (K : Ta.LkAt w gl ga ha hs P σ sp)
theorem FlB.same {W W' : World} {gf : Nat} {kind : Int} {T : TypeId} {v : Value} (h : FlB W gf kind T v) (hb : Below W.heap.size W W') : FlB W' gf kind T v := (Mod.of_below (S := []) hb).blk h (by simp)
theorem FlB.mod {S : List Nat} {W W' : World} {gf : Nat} {kind : Int} {T : TypeId} {v : Value} (h : FlB W gf kind T v) (hm : Mod S W W') (hn : gf ∉ S) : FlB W' gf kind T v := hm.blk h hn
include K in
include H K
end
end Go.Proofs.YtfnmggmgdmokcaaGreatDoor.Fl

