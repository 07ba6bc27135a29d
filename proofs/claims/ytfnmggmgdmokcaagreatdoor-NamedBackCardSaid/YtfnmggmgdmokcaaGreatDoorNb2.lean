/- Merged texts: Heap, De2. -/
import Derived.Test.YtfnmggmgdmokcaaGreatDoorNb1
import Derived.Test.YtfnmggmgdmokcaaGreatDoorOpen
import Derived.Deep.OwnRows
import Derived.Laws.BytesString
import Derived.ScopeJumps
set_option linter.unusedVariables false
/- Worlds that differ in listed blocks alone; blocks known whole. -/
namespace Go.Proofs.YtfnmggmgdmokcaaGreatDoor
open Go.RowKit

structure Mod (S : List Nat) (a w : World) : Prop where
  os : w.os = a.os
  tape : w.tape = a.tape
  output : w.output = a.output
  size : a.heap.size ≤ w.heap.size
  block : ∀ k, k < a.heap.size → k ∉ S → w.heap[k]? = a.heap[k]?

theorem Mod.refl (S : List Nat) (w : World) : Mod S w w := ⟨rfl, rfl, rfl, Nat.le_refl _, fun _ _ _ => rfl⟩
theorem Mod.trans {S : List Nat} {a b c : World} (h : Mod S a b) (k : Mod S b c) : Mod S a c :=
  ⟨k.os.trans h.os, k.tape.trans h.tape, k.output.trans h.output, Nat.le_trans h.size k.size, fun i hi hn => (k.block i (Nat.lt_of_lt_of_le hi h.size) hn).trans (h.block i hi hn)⟩
theorem Mod.drewN {S : List Nat} {a w : World} (h : Mod S a w) (n : Nat) : Mod S a (w.drewN n) := ⟨h.os, h.tape, h.output, h.size, h.block⟩
theorem Mod.drew {S : List Nat} {a w : World} (h : Mod S a w) : Mod S a w.drew := ⟨h.os, h.tape, h.output, h.size, h.block⟩
theorem Mod.alloc {S : List Nat} {a w : World} (h : Mod S a w) (o : Obj) : Mod S a (w.alloc o) :=
  h.trans ⟨rfl, rfl, rfl, by simp, fun k hk _ => Below.heap_alloc _ _ _ hk⟩
theorem Mod.setCell {S : List Nat} {a w : World} (h : Mod S a w) {p : Addr} (hp : p.block ∈ S) (u : Value) : Mod S a (w.setCell p u) :=
  h.trans ⟨rfl, rfl, rfl, by simp [World.setCell], fun k _ hn => Below.heap_setCell _ _ _ _ (fun e => hn (e ▸ hp))⟩
theorem Mod.setNew {S : List Nat} {a w : World} (h : Mod S a w) {p : Addr} (hp : a.heap.size ≤ p.block) (u : Value) : Mod S a (w.setCell p u) :=
  ⟨h.os, h.tape, h.output, by have := h.size; simpa [World.setCell] using this, fun k hk hn => (Below.heap_setCell _ _ _ _ (by omega)).trans (h.block k hk hn)⟩
theorem Mod.sub {S T : List Nat} {a w : World} (h : Mod S a w) (hs : ∀ k, k ∈ S → k ∈ T) : Mod T a w :=
  ⟨h.os, h.tape, h.output, h.size, fun k hk hn => h.block k hk (fun e => hn (hs k e))⟩
theorem Mod.of_below {S : List Nat} {a w : World} (h : Below a.heap.size a w) : Mod S a w := ⟨h.os, h.tape, h.output, h.size, fun k hk _ => h.block k hk⟩
theorem Mod.below {S : List Nat} {B : Nat} {a w : World} (h : Mod S a w) (hB : B ≤ a.heap.size) (hS : ∀ k ∈ S, B ≤ k) : Below B a w :=
  ⟨h.os, h.tape, h.output, h.size, fun k hk => h.block k (by omega) (fun e => by have := hS k e; omega)⟩
theorem Mod.below_of {S : List Nat} {B : Nat} {w a b : World} (hb : Below B w a) (h : Mod S a b) (hB : B ≤ a.heap.size) (hS : ∀ k ∈ S, B ≤ k) : Below B w b := hb.trans (h.below hB hS)
theorem Mod.all {a w : World} (h : Mod [] a w) : Below a.heap.size a w := h.below (Nat.le_refl _) (by simp)

theorem lt_of_blk {w : World} {g : Nat} {o : Obj} (h : w.heap[g]? = some o) : g < w.heap.size := by
  rcases Nat.lt_or_ge g w.heap.size with k | k
  · exact k
  · rw [Array.getElem?_eq_none k] at h; cases h
theorem Mod.blk {S : List Nat} {a w : World} (h : Mod S a w) {g : Nat} {o : Obj} (hg : a.heap[g]? = some o) (hn : g ∉ S) : w.heap[g]? = some o := (h.block g (lt_of_blk hg) hn).trans hg
theorem blk_alloc {w : World} {g : Nat} {o : Obj} (h : w.heap[g]? = some o) (x : Obj) : (w.alloc x).heap[g]? = some o := (Below.heap_alloc w x g (lt_of_blk h)).trans h
theorem blk_new (w : World) (x : Obj) : (w.alloc x).heap[w.heap.size]? = some x := by show (w.heap.push x)[w.heap.size]? = _; simp
theorem blk_other {w : World} {g : Nat} {o : Obj} (h : w.heap[g]? = some o) {p : Addr} (hn : g ≠ p.block) (u : Value) : (w.setCell p u).heap[g]? = some o := (Below.heap_setCell w p u g hn).trans h
theorem blk_cell {w : World} {g : Nat} {cs : Array Value} {t : TypeId} (h : w.heap[g]? = some (.cells cs t (0, 0))) (i : Nat) (hi : i < cs.size) : w.cell? ⟨g, i, none⟩ = some cs[i] := by
  simp [World.cell?, h, hi]
theorem blk_free {w : World} {g : Nat} {cs : Array Value} {t : TypeId} (h : w.heap[g]? = some (.cells cs t (0, 0))) (i : Nat) : w.frozen? ⟨g, i, none⟩ = false := by
  simp [World.frozen?, h]
theorem Sl.mod {S : List Nat} {a w : World} {B : Nat} {A : Option Addr} {xs : List Value} (h : Sl a B A xs) (hm : Mod S a w) (hB : B ≤ a.heap.size) (hS : ∀ k ∈ S, B ≤ k) : Sl w B A xs := h.below (hm.below hB hS)
theorem own_mod {w w' : World} {S : List Nat} {base : Nat} {e : TypeId} {size : Nat} {v : Value} {n : Nat} {xs : List Value} (h : w.ownsRow base e size v n xs) (hm : Mod S w w') (hS : ∀ k ∈ S, k < base) : w'.ownsRow base e size v n xs := by
  refine ⟨h.1, ?_⟩
  rcases h.2 with hn | ⟨g, cap, cur, rfl, hb, hg, rest⟩
  · exact .inl hn
  · exact .inr ⟨g, cap, cur, rfl, hb, hm.blk hg (fun e => by have := hS g e; omega), rest⟩
theorem Mod.of_grown {S : List Nat} {a w w' : World} {row : Option Nat} (h : Mod S a w) (hg : w.grownBy w' row) (hr : ∀ k, row = some k → a.heap.size ≤ k ∨ k ∈ S) : Mod S a w' :=
  ⟨hg.os.trans h.os, hg.tape.trans h.tape, hg.output.trans h.output, Nat.le_trans h.size hg.size, fun k hk hn => (hg.block k (Nat.lt_of_lt_of_le hk h.size) (fun e => by
    rcases hr k e.symm with q | q
    · omega
    · exact hn q)).trans (h.block k hk hn)⟩
end Go.Proofs.YtfnmggmgdmokcaaGreatDoor

/- Walks of numbers' texts: the program's Text. -/
namespace Go.Proofs.YtfnmggmgdmokcaaGreatDoor.De
open Go.RowKit Go.Proofs.YtfnmggmgdmokcaaGreatDoor.Li

def vU (b : UInt8) : Value := .int .u8 (b.toNat : Int)
theorem fold_push (D : List UInt8) : ∀ r : ByteArray, (D.map fun b => (b.toNat : Int)).foldl (fun (r : ByteArray) (n : Int) => r.push (UInt8.ofNat n.toNat)) r = B (L r ++ D) := by
  induction D with
  | nil => intro r; rw [List.append_nil]; exact (B_L r).symm
  | cons b t ih =>
    intro r
    rw [List.map_cons, List.foldl_cons, ih]
    congr 1
    have : L (r.push (UInt8.ofNat ((b.toNat : Int)).toNat)) = L r ++ [b] := by
      simp [L, ByteArray.push]
    rw [this, List.append_assoc]
    rfl
theorem conv_bytes (W : World) (g k c : Nat) (D : List UInt8) (hc : ∀ j (h : j < D.length), W.cell? ⟨g, k + j, none⟩ = some (vU D[j])) : (convert 76 9 (.slice (some ⟨g, k, none⟩) D.length c)).run Tryz.prog W = .ok (vS D) W := by
  rw [run_convert_bytes_string W _ _ _ _ _ _ Tryz.underlying76 Tryz.underlying5 Tryz.underlying9, run_bytesToString W _ _ _ (D.map fun b => (b.toNat : Int)) ?_]
  · rw [fold_push]
    rfl
  · have := run_loadCells_list (P := Tryz.prog) W ⟨g, k, none⟩ ((D.map fun b => (b.toNat : Int)).map (Value.int .u8)) (fun j v hv => by
      have hadd : (⟨g, k, none⟩ : Addr).add j = ⟨g, k + j, none⟩ := by unfold Addr.add; split <;> simp_all
      rw [List.map_map] at hv
      obtain ⟨h1, h2⟩ := List.getElem?_eq_some_iff.1 hv
      rw [hadd, hc j (by simpa using h1), ← h2]
      simp [vU])
    simpa using this

section
variable {P : Program} {a : Act} {w : World} {Q : Exit → Act → World → Prop}
theorem jump_mono {l : Nat} {J J' : Act → World → Prop} (h : ∀ a w, J a w → J' a w) {e : Exit} {a : Act} {w : World} (q : Exit.jump l J Q e a w) : Exit.jump l J' Q e a w := by
  cases e with
  | goto l' => exact ⟨q.1, h _ _ q.2⟩
  | _ => exact q
theorem wp_scope_one {c x : Code} (l : Nat) (J : Act → World → Prop) (μ : Act → World → Nat) (hf : findLabel c l = some (Code.skip.seq x))
    (pass : ∀ a w, J a w → x.wp P (Exit.jump l (fun a' w' => J a' w' ∧ μ a' w' < μ a w) Q) a w)
    (first : Hid (∀ a w, J a w → x.wp P (Exit.jump l J Q) a w) → c.wp P (Exit.jump l J Q) a w) : (Code.scope c).wp P Q a w :=
  wp_scope_jumps l J μ hf (first (Lib.hid fun a w h => Code.wp_mono (fun _ _ _ q => jump_mono (fun _ _ x => x.1) q) (pass a w h))) (fun a w h => wp_seq (wp_skip (pass a w h)))
end
theorem slice20 (g p : Nat) (hp : p < 20) (W : World) : (Instr.sliceAt 75 (.pointer (some ⟨g, 0, none⟩)) (some (.int .i64 (p : Int))) none none).run Tryz.prog W = .ok (.slice (some ⟨g, p, none⟩) (20 - p) (20 - p)) W := by
  have he : Tryz.prog.elem 75 = 5 := by kernel_rfl
  have hl : Tryz.prog.arrayLen 75 = 20 := by kernel_rfl
  have hu : Tryz.prog.underlying 75 = some (.array (Tryz.prog.arrayLen 75) (Tryz.prog.elem 75)) := by rw [he, hl]; exact Tryz.underlying75
  rw [run_sliceAt_array_l W _ _ hu .i64 (p : Int) (by omega) (by rw [hl]; omega), he, hl, Tryz.sizeOf5 W]
  show Result.ok (slicedAt _ _ _ _ _) _ = _
  unfold slicedAt
  rw [Int.toNat_natCast, if_neg (by omega)]
  simp only [Nat.mul_one]
  have hadd : (⟨g, 0, none⟩ : Addr).add p = ⟨g, p, none⟩ := by unfold Addr.add; split <;> simp_all
  rw [hadd]
theorem conv_row (W : World) (g p : Nat) (arr : Array Value) (D : List UInt8) (hblk : W.heap[g]? = some (.cells arr 75 (0, 0))) (hs : arr.size = 20) (hl : D.length + p = 20) (hD : ∀ j (h : j < D.length), arr[p + j]? = some (vU D[j])) :
    (convert 76 9 (.slice (some ⟨g, p, none⟩) (20 - p) (20 - p))).run Tryz.prog W = .ok (vS D) W := by
  have := conv_bytes W g p (20 - p) D (fun j h => by
    have h1 := blk_cell hblk (p + j) (by omega)
    have h2 := hD j h
    rw [Array.getElem?_eq_getElem (by omega)] at h2
    rw [h1]; exact h2)
  rw [show D.length = 20 - p by omega] at this
  exact this
theorem Exit.jump_ret {l : Nat} {J : Act → World → Prop} {Q : Exit → Act → World → Prop} {a : Act} {w : World} : Exit.jump l J Q .ret a w = Q .ret a w := rfl
theorem frame34 {a : Act} (h : a.tmps.size = 34) (hd : a.defers = []) : ∃ u : Nat → Value, a = { tmps := #[u 0, u 1, u 2, u 3, u 4, u 5, u 6, u 7, u 8, u 9, u 10, u 11, u 12, u 13, u 14, u 15, u 16, u 17, u 18, u 19, u 20, u 21, u 22, u 23, u 24, u 25, u 26, u 27, u 28, u 29, u 30, u 31, u 32, u 33], defers := [] } ∧ ∀ n, a.tmps.getD n undef = u n := by
  refine ⟨fun n => a.tmps.getD n undef, ?_, fun _ => rfl⟩
  have h1 := arr_lit a.tmps h
  cases a with
  | mk t d =>
    simp only at hd h1
    subst hd
    congr 1
def TtJ (n : Int) (g : Nat) (w0 : World) (a : Act) (w' : World) : Prop :=
  a.tmps.size = 34 ∧ a.defers = [] ∧ a.tmps.getD 0 undef = .int .i64 n ∧ a.tmps.getD 3 undef = .pointer (some ⟨g, 0, none⟩) ∧ ∃ (at_ : Nat) (x : Int) (D : List UInt8) (arr : Array Value), a.tmps.getD 4 undef = .int .i64 at_ ∧ a.tmps.getD 5 undef = .int .i64 x ∧
    digs n.natAbs = digs x.natAbs ++ D ∧ D.length + at_ = 20 ∧ (x ≠ 0 ∨ at_ = 20) ∧ (-9223372036854775808 ≤ x ∧ x ≤ 9223372036854775807) ∧ w'.heap[g]? = some (.cells arr 75 (0, 0)) ∧ arr.size = 20 ∧
    (∀ j (h : j < D.length), arr[at_ + j]? = some (vU D[j])) ∧ Below g w0 w'
set_option maxHeartbeats 4000000 in
set_option maxRecDepth 100000 in
theorem text_any (n : Int) (hb : -9223372036854775808 ≤ n ∧ n ≤ 9223372036854775807) (w : World) : Calls Tryz.prog 18 #[.int .i64 n] w fun e w' => e = .returned (vS (txt n)) ∧ Below w.heap.size w w' := by
  obtain ⟨g, hg⟩ : ∃ g, w.heap.size = g := ⟨_, rfl⟩
  rw [hg]
  go_enter Tryz.func18, Tryz.ntmps18
  go_wp2_with fail
  refine wp_scope_one 0 (TtJ n g w) (fun a' _ => (intOf (a'.tmps.getD 5 undef)).natAbs) rfl ?_ ?_
  · rintro a' w' ⟨hsz, hdf, s0, s3, at_, x, D, arr, s4, s5, hdig, hlen, hx0, hxb, hblk, has, hD, hbel⟩
    obtain ⟨u, rfl, hu⟩ := frame34 hsz hdf
    rw [hu] at s0 s3 s4 s5
    simp only [s0, s3, s4, s5]
    clear hsz hdf s0 s3 s4 s5 hu
    have hl1 := digs_len 18 n.natAbs (by simp; omega)
    obtain ⟨c0, t0, hh, _⟩ := digs_head _ _ (Nat.le_refl x.natAbs)
    have hl2 : 1 ≤ (digs x.natAbs).length := by rw [hh]; simp
    have hl3 := congrArg List.length hdig
    rw [List.length_append] at hl3
    obtain ⟨p, rfl⟩ : ∃ p, at_ = p + 1 := ⟨at_ - 1, by omega⟩
    have hp1 : 1 ≤ p := by omega
    have hp2 : p < 20 := by omega
    clear hl1 hl2 hl3 hh
    have h1 : (x.tmod 10).natAbs = x.natAbs % 10 := by rw [Int.natAbs_tmod]; rfl
    have h2 : (x.tdiv 10).natAbs = x.natAbs / 10 := by rw [Int.natAbs_tdiv]; rfl
    have hw := IntWalk.i64_quo' x 10 ⟨hxb.1, hxb.2, by omega⟩
    have hd10 : x.natAbs % 10 < 10 := Nat.mod_lt _ (by omega)
    have hstep : Hid (digs n.natAbs = (if x.natAbs < 10 then [] else digs (x.natAbs / 10)) ++ (dg (x.natAbs % 10) :: D)) := Lib.hid (by
      rw [hdig]
      by_cases h : x.natAbs < 10
      · rw [if_pos h, digs_lt h, Nat.mod_eq_of_lt h]; rfl
      · rw [if_neg h, digs_ge (by omega), List.append_assoc]; rfl)
    have hqb : Hid (-9223372036854775808 ≤ x.tdiv 10 ∧ x.tdiv 10 ≤ 9223372036854775807) := Lib.hid (by omega)
    generalize hre : x.tmod 10 = r at *
    generalize hq : x.tdiv 10 = q at *
    generalize hm : x.natAbs % 10 = d at *
    have hu : Hid (Value.int .u8 (48 + (d : Int)) = vU (dg d)) := Lib.hid (by unfold vU; rw [dg_nat hd10]; rfl)
    obtain ⟨old, hcell⟩ : ∃ old, w'.cell? ⟨g, p, none⟩ = some old := ⟨_, blk_cell hblk p (by omega)⟩
    have hfree := blk_free hblk p
    have hblk2 := blk_set hblk p (vU (dg d))
    have hD2 : Hid (∀ j (h : j < (dg d :: D).length), (arr.setIfInBounds p (vU (dg d)))[p + j]? = some (vU (dg d :: D)[j])) := Lib.hid (by
      intro j hj
      cases j with
      | zero => simp [has, hp2]
      | succ j =>
        have := hD j (by simpa using hj)
        rw [Array.getElem?_setIfInBounds_ne (by omega), show p + (j + 1) = p + 1 + j by omega, this]
        rfl)
    have HB2 := Lib.hid hblk2
    have has2 : Hid ((arr.setIfInBounds p (vU (dg d))).size = 20) := Lib.hid (by simpa using has)
    have hlen2 : Hid ((dg d :: D).length + p = 20) := Lib.hid (by simp; omega)
    have HBel := Lib.hid (hbel.setCell (p := ⟨g, p, none⟩) (Nat.le_refl _) (vU (dg d)))
    have i1 : (d : Int) < 10 := by omega
    have i3 : (0 : Int) ≤ (d : Int) := by omega
    have i4 : (p : Int) < 20 := by omega
    have i5 : (1 : Int) ≤ (p : Int) := by omega
    clear hblk hblk2 hD hdig hbel hlen has
    by_cases hr : r < 0
    · obtain rfl : r = -(d : Int) := by omega
      by_cases hq0 : q = 0
      · subst hq0
        have hle : x.natAbs < 10 := by omega
        have hs3 := Lib.hid (show digs n.natAbs = dg d :: D by rw [hstep.out, if_pos hle]; rfl)
        clear h2 hm h1 hx0 hle hqb
        by_cases hn : n < 0
        · have ht := Lib.hid (show txt n = 45 :: dg d :: D by unfold txt; rw [if_pos hn, hs3.out])
          obtain ⟨p, rfl⟩ : ∃ p2, p = p2 + 1 := ⟨p - 1, by omega⟩
          obtain ⟨old2, hcell2⟩ : ∃ old, (w'.setCell ⟨g, p + 1, none⟩ (.int .u8 (48 + (d : Int)))).cell? ⟨g, p, none⟩ = some old := ⟨_, by rw [hu.out]; exact blk_cell HB2.out p (by rw [has2.out]; omega)⟩
          have hfree2 : (w'.setCell ⟨g, p + 1, none⟩ (.int .u8 (48 + (d : Int)))).frozen? ⟨g, p, none⟩ = false := by rw [hu.out]; exact blk_free HB2.out p
          have hblk3 : ((w'.setCell ⟨g, p + 1, none⟩ (.int .u8 (48 + (d : Int)))).setCell ⟨g, p, none⟩ (.int .u8 45)).heap[g]? = some (.cells ((arr.setIfInBounds (p + 1) (vU (dg d))).setIfInBounds p (.int .u8 45)) 75 (0, 0)) := by
            rw [hu.out]; exact blk_set HB2.out p _
          have hcv := conv_row _ g p _ (45 :: dg d :: D) hblk3 (by rw [Array.size_setIfInBounds]; exact has2.out) (by have := hlen2.out; simp only [List.length_cons] at this ⊢; omega) (fun j hj => by
            cases j with
            | zero =>
              show ((arr.setIfInBounds (p + 1) (vU (dg d))).setIfInBounds p (.int .u8 45))[p]? = some (.int .u8 45)
              rw [Array.getElem?_setIfInBounds_self_of_lt (by rw [has2.out]; omega)]
            | succ j => 
              have := hD2.out j (by simpa using hj)
              rw [Array.getElem?_setIfInBounds_ne (by omega), show p + (j + 1) = p + 1 + j by omega, this]
              rfl)
          have hsl := slice20 g p (by omega)
          have HB3 := Lib.hid (HBel.out.setCell (p := ⟨g, p, none⟩) (Nat.le_refl _) (.int .u8 45))
          have i6 : (0 : Int) ≤ (p : Int) := by omega
          clear hblk3
          go_wp2_with fail
          rw [Exit.jump_ret]
          go_ret
          exact ⟨by rw [ht.out]; rfl, by rw [hu.out]; exact HB3.out⟩
        · have ht := Lib.hid (show txt n = dg d :: D by unfold txt; rw [if_neg hn, hs3.out])
          have hblk3 : (w'.setCell ⟨g, p, none⟩ (.int .u8 (48 + (d : Int)))).heap[g]? = some (.cells (arr.setIfInBounds p (vU (dg d))) 75 (0, 0)) := by
            rw [hu.out]; exact HB2.out
          have hcv := conv_row _ g p _ (dg d :: D) hblk3 has2.out hlen2.out hD2.out
          have hsl := slice20 g p hp2
          clear hblk3
          go_wp2_with fail
          rw [Exit.jump_ret]
          go_ret
          exact ⟨by rw [ht.out]; rfl, by rw [hu.out]; exact HBel.out⟩
      · have q0 := ibne hq0
        have hge : ¬ x.natAbs < 10 := by intro h; apply hq0; omega
        have hs3 := Lib.hid (show digs n.natAbs = digs q.natAbs ++ (dg d :: D) by rw [hstep.out, if_neg hge, h2])
        have hme : q.natAbs < x.natAbs := by omega
        clear h2 hm h1 hx0 hge
        go_wp2_with fail
        go_step3
        rw [hu.out]
        exact ⟨rfl, ⟨rfl, rfl, rfl, rfl, p, q, dg d :: D, _, rfl, rfl, hs3.out, hlen2.out, .inl hq0, hqb.out, HB2.out, has2.out, hD2.out, HBel.out⟩, by simpa [intOf] using hme⟩
    · obtain rfl : r = (d : Int) := by omega
      by_cases hq0 : q = 0
      · subst hq0
        have hle : x.natAbs < 10 := by omega
        have hs3 := Lib.hid (show digs n.natAbs = dg d :: D by rw [hstep.out, if_pos hle]; rfl)
        clear h2 hm h1 hx0 hle hqb
        by_cases hn : n < 0
        · have ht := Lib.hid (show txt n = 45 :: dg d :: D by unfold txt; rw [if_pos hn, hs3.out])
          obtain ⟨p, rfl⟩ : ∃ p2, p = p2 + 1 := ⟨p - 1, by omega⟩
          obtain ⟨old2, hcell2⟩ : ∃ old, (w'.setCell ⟨g, p + 1, none⟩ (.int .u8 (48 + (d : Int)))).cell? ⟨g, p, none⟩ = some old := ⟨_, by rw [hu.out]; exact blk_cell HB2.out p (by rw [has2.out]; omega)⟩
          have hfree2 : (w'.setCell ⟨g, p + 1, none⟩ (.int .u8 (48 + (d : Int)))).frozen? ⟨g, p, none⟩ = false := by rw [hu.out]; exact blk_free HB2.out p
          have hblk3 : ((w'.setCell ⟨g, p + 1, none⟩ (.int .u8 (48 + (d : Int)))).setCell ⟨g, p, none⟩ (.int .u8 45)).heap[g]? = some (.cells ((arr.setIfInBounds (p + 1) (vU (dg d))).setIfInBounds p (.int .u8 45)) 75 (0, 0)) := by
            rw [hu.out]; exact blk_set HB2.out p _
          have hcv := conv_row _ g p _ (45 :: dg d :: D) hblk3 (by rw [Array.size_setIfInBounds]; exact has2.out) (by have := hlen2.out; simp only [List.length_cons] at this ⊢; omega) (fun j hj => by
            cases j with
            | zero =>
              show ((arr.setIfInBounds (p + 1) (vU (dg d))).setIfInBounds p (.int .u8 45))[p]? = some (.int .u8 45)
              rw [Array.getElem?_setIfInBounds_self_of_lt (by rw [has2.out]; omega)]
            | succ j => 
              have := hD2.out j (by simpa using hj)
              rw [Array.getElem?_setIfInBounds_ne (by omega), show p + (j + 1) = p + 1 + j by omega, this]
              rfl)
          have hsl := slice20 g p (by omega)
          have HB3 := Lib.hid (HBel.out.setCell (p := ⟨g, p, none⟩) (Nat.le_refl _) (.int .u8 45))
          have i6 : (0 : Int) ≤ (p : Int) := by omega
          clear hblk3
          go_wp2_with fail
          rw [Exit.jump_ret]
          go_ret
          exact ⟨by rw [ht.out]; rfl, by rw [hu.out]; exact HB3.out⟩
        · have ht := Lib.hid (show txt n = dg d :: D by unfold txt; rw [if_neg hn, hs3.out])
          have hblk3 : (w'.setCell ⟨g, p, none⟩ (.int .u8 (48 + (d : Int)))).heap[g]? = some (.cells (arr.setIfInBounds p (vU (dg d))) 75 (0, 0)) := by
            rw [hu.out]; exact HB2.out
          have hcv := conv_row _ g p _ (dg d :: D) hblk3 has2.out hlen2.out hD2.out
          have hsl := slice20 g p hp2
          clear hblk3
          go_wp2_with fail
          rw [Exit.jump_ret]
          go_ret
          exact ⟨by rw [ht.out]; rfl, by rw [hu.out]; exact HBel.out⟩
      · have q0 := ibne hq0
        have hge : ¬ x.natAbs < 10 := by intro h; apply hq0; omega
        have hs3 := Lib.hid (show digs n.natAbs = digs q.natAbs ++ (dg d :: D) by rw [hstep.out, if_neg hge, h2])
        have hme : q.natAbs < x.natAbs := by omega
        clear h2 hm h1 hx0 hge
        go_wp2_with fail
        go_step3
        rw [hu.out]
        exact ⟨rfl, ⟨rfl, rfl, rfl, rfl, p, q, dg d :: D, _, rfl, rfl, hs3.out, hlen2.out, .inl hq0, hqb.out, HB2.out, has2.out, hD2.out, HBel.out⟩, by simpa [intOf] using hme⟩
  · intro hmore
    go_wp2_with fail
    go_step3
    rename_i hK
    refine hK _ _ ?_
    exact hmore.out _ _ ⟨rfl, rfl, rfl, rfl, 20, n, [], _, rfl, rfl, (List.append_nil _).symm, rfl, .inr rfl, hb, by rw [← hg]; exact blk_new _ _, rfl, by simp, by rw [← hg]; exact below_new _ _⟩
end Go.Proofs.YtfnmggmgdmokcaaGreatDoor.De

