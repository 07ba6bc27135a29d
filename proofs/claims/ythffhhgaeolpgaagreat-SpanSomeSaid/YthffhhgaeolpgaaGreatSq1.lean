/- Merged texts: Sn1, Heap, Make, Arena1, Arena2, Arena3, Arena4, Upd. -/
import Derived.Test.YthffhhgaeolpgaaGreatOpen
import Derived.Deep.OwnRows
import Derived.Laws.MakeOwn
import Derived.Laws.LoneSync
set_option linter.unusedVariables false
/- Within how many picks: what is left to do of those ahead; windows of a fair script: the plain law. -/
namespace Go.Proofs.YthffhhgaeolpgaaGreat.Sn

def ahead (c : Int → Nat) : List Int → Int → Nat
  | [], _ => 0
  | u :: r, t => if u = t then 0 else c u + ahead c r t
theorem ahead_le {c c' : Int → Nat} {q : List Int} {t : Int} (h : ∀ u, u ∈ q → u ≠ t → c' u ≤ c u) : ahead c' q t ≤ ahead c q t := by
  induction q with
  | nil => exact Nat.le_refl _
  | cons u r ih =>
    unfold ahead
    by_cases e : u = t
    · rw [if_pos e, if_pos e]; exact Nat.le_refl _
    · rw [if_neg e, if_neg e]
      have h1 := h u (by simp) e
      have h2 := ih (fun v hv => h v (by simp [hv]))
      omega
theorem ahead_eq {c c' : Int → Nat} {q : List Int} {t : Int} (h : ∀ u, u ∈ q → u ≠ t → c' u = c u) : ahead c' q t = ahead c q t :=
  Nat.le_antisymm (ahead_le fun u hu ht => by rw [h u hu ht]; exact Nat.le_refl _) (ahead_le fun u hu ht => by rw [h u hu ht]; exact Nat.le_refl _)
def isAhead : List Int → Int → Int → Prop
  | [], _, _ => False
  | u :: r, t, v => u ≠ t ∧ (u = v ∨ isAhead r t v)
theorem ahead_lt {c c' : Int → Nat} {q : List Int} {t v : Int} (h : ∀ u, u ∈ q → u ≠ t → c' u ≤ c u) (hv : isAhead q t v) (hl : c' v < c v) : ahead c' q t < ahead c q t := by
  induction q with
  | nil => exact absurd hv id
  | cons u r ih =>
    obtain ⟨e, hv⟩ := hv
    unfold ahead
    rw [if_neg e, if_neg e]
    have h1 := h u (by simp) e
    have h2 := ahead_le (c := c) (c' := c') (q := r) (t := t) (fun v hv => h v (by simp [hv]))
    rcases hv with rfl | hv
    · omega
    · have := ih (fun v hv => h v (by simp [hv])) hv
      omega
theorem ahead_push {c : Int → Nat} {q : List Int} {t : Int} (ht : t ∈ q) (i : Int) : ahead c (q ++ [i]) t = ahead c q t := by
  induction q with
  | nil => simp at ht
  | cons u r ih =>
    show ahead c (u :: (r ++ [i])) t = _
    unfold ahead
    by_cases e : u = t
    · rw [if_pos e, if_pos e]
    · rw [if_neg e, if_neg e, ih (by simp at ht; rcases ht with rfl | ht; exact absurd rfl e; exact ht)]
theorem ahead_bound {c : Int → Nat} {q : List Int} (t : Int) (C : Nat) (h : ∀ u, u ∈ q → c u ≤ C) : ahead c q t ≤ q.length * C := by
  induction q with
  | nil => exact Nat.zero_le _
  | cons u r ih =>
    unfold ahead
    have h1 := h u (by simp)
    have h2 := ih (fun v hv => h v (by simp [hv]))
    rw [List.length_cons, Nat.add_mul]
    split <;> omega
theorem ahead_split {c : Int → Nat} {q : List Int} {t : Int} (ht : t ∈ q) : ∃ a b, q = a ++ t :: b ∧ t ∉ a ∧ ∀ c, ahead c q t = ahead c (a ++ [t]) t := by
  induction q with
  | nil => simp at ht
  | cons u r ih =>
    by_cases e : u = t
    · subst e
      exact ⟨[], r, rfl, by simp, fun c => by unfold ahead; rw [if_pos rfl]; show _ = ahead c [u] u; unfold ahead; rw [if_pos rfl]⟩
    · obtain ⟨a, b, h1, h2, h3⟩ := ih (by simp at ht; rcases ht with rfl | ht; exact absurd rfl e; exact ht)
      refine ⟨u :: a, b, by rw [h1]; rfl, by simp; exact ⟨fun x => e x.symm, h2⟩, fun c => ?_⟩
      show _ = ahead c (u :: (a ++ [t])) t
      unfold ahead
      rw [if_neg e, if_neg e, h3]
theorem nodup_len {N : Nat} : ∀ {q : List Int}, q.Nodup → (∀ u, u ∈ q → 0 ≤ u ∧ u < (N : Int)) → q.length ≤ N := by
  induction N with
  | zero =>
    intro q _ h
    cases q with
    | nil => exact Nat.le_refl _
    | cons u r => have := h u (by simp); omega
  | succ N ih =>
    intro q hn h
    by_cases hm : (N : Int) ∈ q
    · have h1 : (q.erase (N : Int)).length = q.length - 1 := List.length_erase_of_mem hm
      have h2 := ih (q := q.erase (N : Int)) (hn.erase _) (fun u hu => by
        have h3 := (List.Nodup.mem_erase_iff hn).1 hu
        have h4 := h u h3.2
        have := h3.1
        omega)
      omega
    · have := ih hn (fun u hu => by
        have h4 := h u hu
        have : u ≠ (N : Int) := fun e => hm (e ▸ hu)
        omega)
      omega
def FairBy (picks : List Int) (N k : Nat) : Prop := ∀ i, i + k ≤ picks.length → ∀ c : Int, 0 ≤ c → c < N → ∃ j, i ≤ j ∧ j < i + k ∧ picks.getD j 0 = c
section
variable {picks : List Int} {N k : Nat} {Wt : Nat → Prop} {En : Nat → Prop} {D : Nat → Nat} {cr : Nat → Int}
theorem window_one (hs : ∀ i, i < picks.length → Wt i → En i ∨ (Wt (i + 1) ∧ D (i + 1) ≤ D i ∧ (D (i + 1) < D i ∨ (cr (i + 1) = cr i ∧ picks.getD i 0 ≠ cr i))))
    (i : Nat) (hw : Wt i) : ∀ n, i + n ≤ picks.length → (∃ e, i ≤ e ∧ e < i + n ∧ En e) ∨ (Wt (i + n) ∧ D (i + n) ≤ D i ∧ (D (i + n) < D i ∨ (cr (i + n) = cr i ∧ ∀ j, i ≤ j → j < i + n → picks.getD j 0 ≠ cr i))) := by
  intro n
  induction n with
  | zero => intro _; exact .inr ⟨hw, Nat.le_refl _, .inr ⟨rfl, fun j h1 h2 => by omega⟩⟩
  | succ n ih =>
    intro hn
    rcases ih (by omega) with ⟨e, e1, e2, e3⟩ | ⟨h1, h2, h3⟩
    · exact .inl ⟨e, e1, by omega, e3⟩
    · rcases hs (i + n) (by omega) h1 with h4 | ⟨h4, h5, h6⟩
      · exact .inl ⟨i + n, by omega, by omega, h4⟩
      · right
        refine ⟨h4, by show D (i + n + 1) ≤ _; omega, ?_⟩
        rcases h3 with h3 | ⟨h3, h7⟩
        · left; show D (i + n + 1) < _; omega
        · rcases h6 with h6 | ⟨h6, h8⟩
          · left; show D (i + n + 1) < _; omega
          · right
            refine ⟨h6.trans h3, fun j j1 j2 => ?_⟩
            by_cases e : j = i + n
            · subst e; rw [← h3]; exact h8
            · exact h7 j j1 (by omega)
theorem windows (hf : FairBy picks N k) (hk : 1 ≤ k) (hs : ∀ i, i < picks.length → Wt i → En i ∨ (Wt (i + 1) ∧ D (i + 1) ≤ D i ∧ (D (i + 1) < D i ∨ (cr (i + 1) = cr i ∧ picks.getD i 0 ≠ cr i))))
    (hc : ∀ i, Wt i → 0 ≤ cr i ∧ cr i < N) (hp : ∀ i, Wt i → 0 < D i) : ∀ d i, Wt i → D i ≤ d → i + k * d ≤ picks.length → ∃ e, i ≤ e ∧ e < i + k * d ∧ En e := by
  intro d
  induction d with
  | zero => intro i hw hd _; have := hp i hw; omega
  | succ d ih =>
    intro i hw hd hl
    rw [Nat.mul_succ] at hl ⊢
    rcases window_one hs i hw k (by omega) with ⟨e, e1, e2, e3⟩ | ⟨h1, h2, h3⟩
    · exact ⟨e, e1, by omega, e3⟩
    · have hlt : D (i + k) < D i := by
        rcases h3 with h3 | ⟨_, h3⟩
        · exact h3
        · obtain ⟨c0, c1⟩ := hc i hw
          obtain ⟨j, j1, j2, j3⟩ := hf i (by omega) (cr i) c0 c1
          exact absurd j3 (h3 j j1 j2)
      obtain ⟨e, e1, e2, e3⟩ := ih (i + k) h1 (by omega) (by omega)
      exact ⟨e, by omega, by omega, e3⟩
end
end Go.Proofs.YthffhhgaeolpgaaGreat.Sn

/- Worlds that differ in listed blocks alone; blocks known whole. -/
namespace Go.Proofs.YthffhhgaeolpgaaGreat
open Go.RowKit

structure Mod (S : List Nat) (a w : World) : Prop where
  os : w.os = a.os
  tape : w.tape = a.tape
  output : w.output = a.output
  size : a.heap.size ≤ w.heap.size
  block : ∀ k, k < a.heap.size → k ∉ S → w.heap[k]? = a.heap[k]?

theorem Mod.refl (S : List Nat) (w : World) : Mod S w w := ⟨rfl, rfl, rfl, Nat.le_refl _, fun _ _ _ => rfl⟩
theorem Mod.trans {S : List Nat} {a b c : World} (h : Mod S a b) (k : Mod S b c) : Mod S a c :=
  ⟨k.os.trans h.os, k.tape.trans h.tape, k.output.trans h.output, Nat.le_trans h.size k.size, fun i hi hn => (k.block i (Nat.lt_of_lt_of_le hi h.size) hn).trans (h.block i hi hn)⟩
theorem Mod.drewN {S : List Nat} {a w : World} (h : Mod S a w) (n : Nat) : Mod S a (w.drewN n) := ⟨h.os, h.tape, h.output, h.size, h.block⟩
theorem Mod.drew {S : List Nat} {a w : World} (h : Mod S a w) : Mod S a w.drew := ⟨h.os, h.tape, h.output, h.size, h.block⟩
theorem Mod.alloc {S : List Nat} {a w : World} (h : Mod S a w) (o : Obj) : Mod S a (w.alloc o) :=
  h.trans ⟨rfl, rfl, rfl, by simp, fun k hk _ => Below.heap_alloc _ _ _ hk⟩
theorem Mod.setCell {S : List Nat} {a w : World} (h : Mod S a w) {p : Addr} (hp : p.block ∈ S) (u : Value) : Mod S a (w.setCell p u) :=
  h.trans ⟨rfl, rfl, rfl, by simp [World.setCell], fun k _ hn => Below.heap_setCell _ _ _ _ (fun e => hn (e ▸ hp))⟩
theorem Mod.setNew {S : List Nat} {a w : World} (h : Mod S a w) {p : Addr} (hp : a.heap.size ≤ p.block) (u : Value) : Mod S a (w.setCell p u) :=
  ⟨h.os, h.tape, h.output, by have := h.size; simpa [World.setCell] using this, fun k hk hn => (Below.heap_setCell _ _ _ _ (by omega)).trans (h.block k hk hn)⟩
theorem Mod.sub {S T : List Nat} {a w : World} (h : Mod S a w) (hs : ∀ k, k ∈ S → k ∈ T) : Mod T a w :=
  ⟨h.os, h.tape, h.output, h.size, fun k hk hn => h.block k hk (fun e => hn (hs k e))⟩
theorem Mod.of_below {S : List Nat} {a w : World} (h : Below a.heap.size a w) : Mod S a w := ⟨h.os, h.tape, h.output, h.size, fun k hk _ => h.block k hk⟩
theorem Mod.below {S : List Nat} {B : Nat} {a w : World} (h : Mod S a w) (hB : B ≤ a.heap.size) (hS : ∀ k ∈ S, B ≤ k) : Below B a w :=
  ⟨h.os, h.tape, h.output, h.size, fun k hk => h.block k (by omega) (fun e => by have := hS k e; omega)⟩
theorem Mod.below_of {S : List Nat} {B : Nat} {w a b : World} (hb : Below B w a) (h : Mod S a b) (hB : B ≤ a.heap.size) (hS : ∀ k ∈ S, B ≤ k) : Below B w b := hb.trans (h.below hB hS)
theorem Mod.all {a w : World} (h : Mod [] a w) : Below a.heap.size a w := h.below (Nat.le_refl _) (by simp)

theorem lt_of_blk {w : World} {g : Nat} {o : Obj} (h : w.heap[g]? = some o) : g < w.heap.size := by
  rcases Nat.lt_or_ge g w.heap.size with k | k
  · exact k
  · rw [Array.getElem?_eq_none k] at h; cases h
theorem Mod.blk {S : List Nat} {a w : World} (h : Mod S a w) {g : Nat} {o : Obj} (hg : a.heap[g]? = some o) (hn : g ∉ S) : w.heap[g]? = some o := (h.block g (lt_of_blk hg) hn).trans hg
theorem blk_alloc {w : World} {g : Nat} {o : Obj} (h : w.heap[g]? = some o) (x : Obj) : (w.alloc x).heap[g]? = some o := (Below.heap_alloc w x g (lt_of_blk h)).trans h
theorem blk_new (w : World) (x : Obj) : (w.alloc x).heap[w.heap.size]? = some x := by show (w.heap.push x)[w.heap.size]? = _; simp
theorem blk_other {w : World} {g : Nat} {o : Obj} (h : w.heap[g]? = some o) {p : Addr} (hn : g ≠ p.block) (u : Value) : (w.setCell p u).heap[g]? = some o := (Below.heap_setCell w p u g hn).trans h
theorem blk_cell {w : World} {g : Nat} {cs : Array Value} {t : TypeId} (h : w.heap[g]? = some (.cells cs t (0, 0))) (i : Nat) (hi : i < cs.size) : w.cell? ⟨g, i, none⟩ = some cs[i] := by
  simp [World.cell?, h, hi]
theorem blk_free {w : World} {g : Nat} {cs : Array Value} {t : TypeId} (h : w.heap[g]? = some (.cells cs t (0, 0))) (i : Nat) : w.frozen? ⟨g, i, none⟩ = false := by
  simp [World.frozen?, h]
theorem Sl.mod {S : List Nat} {a w : World} {B : Nat} {A : Option Addr} {xs : List Value} (h : Sl a B A xs) (hm : Mod S a w) (hB : B ≤ a.heap.size) (hS : ∀ k ∈ S, B ≤ k) : Sl w B A xs := h.below (hm.below hB hS)
theorem own_mod {w w' : World} {S : List Nat} {base : Nat} {e : TypeId} {size : Nat} {v : Value} {n : Nat} {xs : List Value} (h : w.ownsRow base e size v n xs) (hm : Mod S w w') (hS : ∀ k ∈ S, k < base) : w'.ownsRow base e size v n xs := by
  refine ⟨h.1, ?_⟩
  rcases h.2 with hn | ⟨g, cap, cur, rfl, hb, hg, rest⟩
  · exact .inl hn
  · exact .inr ⟨g, cap, cur, rfl, hb, hm.blk hg (fun e => by have := hS g e; omega), rest⟩
theorem Mod.of_grown {S : List Nat} {a w w' : World} {row : Option Nat} (h : Mod S a w) (hg : w.grownBy w' row) (hr : ∀ k, row = some k → a.heap.size ≤ k ∨ k ∈ S) : Mod S a w' :=
  ⟨hg.os.trans h.os, hg.tape.trans h.tape, hg.output.trans h.output, Nat.le_trans h.size hg.size, fun k hk hn => (hg.block k (Nat.lt_of_lt_of_le hk h.size) (fun e => by
    rcases hr k e.symm with q | q
    · omega
    · exact hn q)).trans (h.block k hk hn)⟩
theorem of_same {P : Program} {f : FuncId} {args : Array Value} {w : World} {e0 : Ending} (h : Calls P f args w fun e w' => e = e0 ∧ w' = w) : Calls P f args w fun e w' => e = e0 ∧ Below w.heap.size w w' :=
  h.mono fun _ _ ⟨h1, h2⟩ => ⟨h1, by rw [h2]; exact Below.refl _ _⟩
end Go.Proofs.YthffhhgaeolpgaaGreat

/- make of a slice whose elements have several cells. -/
namespace Go.Proofs.YthffhhgaeolpgaaGreat
open Go.RowKit

theorem made_flat (z : Array Value) (n : Nat) : madeCells z (n * z.size) = ((List.replicate n z.toList).flatten).toArray := by
  apply Array.ext
  · simp [madeCells]
  · intro i h1 h2
    have hi : i < n * z.size := by simpa [madeCells] using h1
    have hz : 0 < z.size := Nat.pos_of_ne_zero (fun h => by rw [h] at hi; simp at hi)
    have hm : i % z.size < z.size := Nat.mod_lt _ hz
    have key : ∀ n i, i < n * z.size → ((List.replicate n z.toList).flatten)[i]? = z[i % z.size]? := by
      intro n
      induction n with
      | zero => intro i hi; simp at hi
      | succ n ih =>
        intro i hi
        rw [List.replicate_succ, List.flatten_cons]
        by_cases hlt : i < z.size
        · rw [List.getElem?_append_left (by simpa using hlt), Nat.mod_eq_of_lt hlt]
          simp
        · rw [List.getElem?_append_right (by simp; omega), ih _ (by rw [Nat.add_mul] at hi; simp; omega)]
          simp only [Array.length_toList]
          rw [← Nat.mod_eq_sub_mod (by omega)]
    have h3 := key n i hi
    rw [List.getElem?_eq_getElem (by simpa using h2), Array.getElem?_eq_getElem hm] at h3
    simp only [madeCells, Array.getElem_map, Array.getElem_range, List.getElem_toArray]
    rw [Option.some.inj h3]
    simp [hm]

theorem run_make_rows {P : Program} (t e : TypeId) (z : Value) (size bytes : Nat) (ht : P.underlying t = some (.slice e)) (hinfo : (P.info? e).map (fun i => (i.zero, i.size, i.bytes)) = some (some z, size, bytes)) (hz1 : z.cells.size = size)
    (kl kc : IntKind) (n : Nat) (hbytes : bytes * n ≤ 281474976710656) (h63 : n ≤ 9223372036854775807) (w : World) :
    (Instr.makeSlice t (.int kl (n : Int)) (.int kc (n : Int))).run P w = .ok (.slice (some ⟨w.heap.size, 0, none⟩) n n) (w.alloc (.cells ((List.replicate n z.cells.toList).flatten).toArray e)) := by
  obtain ⟨i, hi, hzz⟩ := Option.map_eq_some_iff.1 hinfo
  simp only [Prod.mk.injEq] at hzz
  obtain ⟨hz, hs, hb⟩ := hzz
  have hb' : (i.bytes : Int) * (n : Int) ≤ 281474976710656 := by
    have h : ((i.bytes * n : Nat) : Int) ≤ 281474976710656 := by rw [hb]; omega
    rwa [Int.natCast_mul] at h
  have hr := run_make (P := P) w t e i z ht hi hz kl kc n n (by omega) (Int.le_refl _) hb' (by omega)
  simp only [Int.toNat_natCast, hs, ← hz1, made_flat] at hr
  exact hr
end Go.Proofs.YthffhhgaeolpgaaGreat

/- Package arena: the ops of sync/atomic on a word; the arena in memory. -/
namespace Go.Proofs.YthffhhgaeolpgaaGreat.Ara
open Go.RowKit


section
variable {a : Addr} {x y v : Int} {W : World}
theorem at_load (hc : W.cell? a = some (.int .i64 x)) :
    (callFunc 107 #[.pointer (some a)]).run Tryz.prog W = .ok (.value (.int .i64 x)) W :=
  run_call_load Tryz.func107 (by kernel_rfl) (by kernel_rfl) (by kernel_rfl) .i64 (by kernel_rfl) hc
theorem at_store (hc : W.cell? a = some (.int .i64 x)) (hz : W.frozen? a = false) :
    (callFunc 122 #[.pointer (some a), .int .i64 y]).run Tryz.prog W = .ok (.value (.tuple #[])) (W.setCell a (.int .i64 y)) :=
  run_call_store Tryz.func122 (by kernel_rfl) (by kernel_rfl) (by kernel_rfl) (by kernel_rfl) hc hz
theorem at_add (hc : W.cell? a = some (.int .i64 x)) (hz : W.frozen? a = false) :
    (callFunc 165 #[.pointer (some a), .int .i64 y]).run Tryz.prog W = .ok (.value (.int .i64 (IntKind.i64.wrap (x + y)))) (W.setCell a (.int .i64 (IntKind.i64.wrap (x + y)))) :=
  run_call_add Tryz.func165 (by kernel_rfl) (by kernel_rfl) (by kernel_rfl) .i64 (by kernel_rfl) hc hz (by simp [go_sem])
theorem at_cas_hit (hc : W.cell? a = some (.int .i64 x)) (hz : W.frozen? a = false) :
    (callFunc 148 #[.pointer (some a), .int .i64 x, .int .i64 v]).run Tryz.prog W = .ok (.value (.bool true)) (W.setCell a (.int .i64 v)) :=
  run_call_cas_hit Tryz.func148 (by kernel_rfl) (by kernel_rfl) (by kernel_rfl) .i64 (by kernel_rfl) hc hz
theorem at_cas_miss (hc : W.cell? a = some (.int .i64 x)) (hz : W.frozen? a = false) (hne : x ≠ y) :
    (callFunc 148 #[.pointer (some a), .int .i64 y, .int .i64 v]).run Tryz.prog W = .ok (.value (.bool false)) W :=
  run_call_cas_miss Tryz.func148 (by kernel_rfl) (by kernel_rfl) (by kernel_rfl) .i64 (by kernel_rfl) hc hz hne
theorem at_swap (hc : W.cell? a = some (.int .i64 x)) (hz : W.frozen? a = false) :
    (callFunc 192 #[.pointer (some a), .int .i64 y]).run Tryz.prog W = .ok (.value (.int .i64 x)) (W.setCell a (.int .i64 y)) := by
  rw [run_callFunc_extern Tryz.func192 (by kernel_rfl) (by kernel_rfl) (by kernel_rfl) (e := Extern.Atomic.swapT (.int .i64)) (by kernel_rfl)]
  change (Sem.run Tryz.prog (do
    let a' ← asAddr (.pointer (some a))
    let old ← Extern.Atomic.read (.int .i64) a'
    store a' (.int .i64 y) .atomic
    pure old) W).andThen _ = _
  simp [Extern.Atomic.read, asAddr, hc, hz, run_store Tryz.prog W a (.int .i64 y) .atomic rfl, Result.andThen]
end
end Go.Proofs.YthffhhgaeolpgaaGreat.Ara

/- Package arena: the arena in memory, and its ops. -/
namespace Go.Proofs.YthffhhgaeolpgaaGreat.Ara
open Go.RowKit

def vI (n : Int) : Value := .int .i64 n
structure Ar where
  ws : List Int
  t : Nat
  ops : Nat
  kind : Int
  pos : Int
  wrote : Bool
  deriving DecidableEq
def arCells (A : Option Addr) (c : Nat) (σ : Ar) : Array Value := #[.slice A σ.ws.length c, .int .i64 σ.t, .int .i64 σ.ops, .int .i64 σ.kind, .int .i64 σ.pos, .bool σ.wrote]
def ArAt (w : World) (g h : Nat) (σ : Ar) : Prop :=
  σ.t ≤ σ.ws.length ∧ σ.ws.length ≤ 4096 ∧ ∃ A c, w.heap[g]? = some (.cells (arCells A c σ) 94 (0, 0)) ∧
    (σ.ws = [] ∨ (A = some ⟨h, 0, none⟩ ∧ h ≠ g ∧ w.heap[h]? = some (.cells (σ.ws.map vI).toArray 137 (0, 0))))
theorem ArAt.lt {w : World} {g h : Nat} {σ : Ar} (k : ArAt w g h σ) : g < w.heap.size := by
  obtain ⟨_, _, A, c, h1, _⟩ := k
  exact lt_of_blk h1
theorem ArAt.mod {S : List Nat} {w w' : World} {g h : Nat} {σ : Ar} (k : ArAt w g h σ) (hm : Mod S w w') (hg : g ∉ S) (hh : h ∉ S) : ArAt w' g h σ := by
  obtain ⟨h1, h2, A, c, h3, h4⟩ := k
  refine ⟨h1, h2, A, c, hm.blk h3 hg, ?_⟩
  rcases h4 with h4 | ⟨a, b, c⟩
  · exact .inl h4
  · exact .inr ⟨a, b, hm.blk c hh⟩
theorem ArAt.step {w w' : World} {g h : Nat} {σ : Ar} (k : ArAt w g h σ) (hb : Below w.heap.size w w') : ArAt w' g h σ := k.mod (S := []) (Mod.of_below hb) (by simp) (by simp)
theorem ArAt.drewN {w : World} {g h : Nat} {σ : Ar} (k : ArAt w g h σ) (n : Nat) : ArAt (w.drewN n) g h σ := k

def Ar.did (σ : Ar) (kind pos : Int) (wrote : Bool) (ws : List Int) : Ar := ⟨ws, σ.t, σ.ops + 1, kind, pos, wrote⟩
theorem ArAt.note {w : World} {g h : Nat} {σ : Ar} (k : ArAt w g h σ) (n : Nat) (kind pos : Int) (wrote : Bool) (hn : n = σ.ops + 1) :
    ArAt ((((w.setCell ⟨g, 2, none⟩ (.int .i64 n)).setCell ⟨g, 3, none⟩ (.int .i64 kind)).setCell ⟨g, 4, none⟩ (.int .i64 pos)).setCell ⟨g, 5, none⟩ (.bool wrote)) g h (σ.did kind pos wrote σ.ws) := by
  obtain ⟨h1, h2, A, c, h3, h4⟩ := k
  subst hn
  refine ⟨h1, h2, A, c, ?_, ?_⟩
  · rw [blk_set (blk_set (blk_set (blk_set h3 _ _) _ _) _ _)]
    rfl
  · rcases h4 with h4 | ⟨a, b, c⟩
    · exact .inl h4
    · exact .inr ⟨a, b, blk_other (blk_other (blk_other (blk_other c b _) b _) b _) b _⟩
theorem ArAt.put {w : World} {g h : Nat} {σ : Ar} (k : ArAt w g h σ) (i : Nat) (v : Int) (hi : i < σ.t) : ArAt (w.setCell ⟨h, i, none⟩ (.int .i64 v)) g h { σ with ws := σ.ws.set i v } := by
  obtain ⟨h1, h2, A, c, h3, h4⟩ := k
  rcases h4 with h4 | ⟨rfl, b, h5⟩
  · rw [h4] at h1
    simp at h1
    omega
  · refine ⟨by simpa using h1, by simpa using h2, _, c, ?_, .inr ⟨rfl, b, ?_⟩⟩
    · rw [blk_other h3 (Ne.symm b)]
      simp [arCells]
    · rw [blk_set h5]
      simp [List.map_set, vI]

theorem ArAt.heads {w : World} {g h : Nat} {σ : Ar} (k : ArAt w g h σ) : ∃ A c, w.cell? ⟨g, 0, none⟩ = some (.slice A σ.ws.length c) ∧ w.cell? ⟨g, 1, none⟩ = some (.int .i64 σ.t) ∧ w.cell? ⟨g, 2, none⟩ = some (.int .i64 σ.ops) ∧
    w.cell? ⟨g, 3, none⟩ = some (.int .i64 σ.kind) ∧ w.cell? ⟨g, 4, none⟩ = some (.int .i64 σ.pos) ∧ w.cell? ⟨g, 5, none⟩ = some (.bool σ.wrote) ∧
    (∀ i, w.frozen? ⟨g, i, none⟩ = false) := by
  obtain ⟨h1, h2, A, c, h3, h4⟩ := k
  exact ⟨A, c, blk_cell h3 0 (by simp [arCells]), blk_cell h3 1 (by simp [arCells]), blk_cell h3 2 (by simp [arCells]), blk_cell h3 3 (by simp [arCells]), blk_cell h3 4 (by simp [arCells]), blk_cell h3 5 (by simp [arCells]), blk_free h3⟩
theorem ArAt.word {w : World} {g h : Nat} {σ : Ar} (k : ArAt w g h σ) (i : Nat) (hi : i < σ.t) : ∃ c, w.cell? ⟨g, 0, none⟩ = some (.slice (some ⟨h, 0, none⟩) σ.ws.length c) ∧
    w.cell? ⟨h, i, none⟩ = some (.int .i64 (σ.ws.getD i 0)) ∧ w.frozen? ⟨h, i, none⟩ = false ∧ h ≠ g ∧ i < σ.ws.length := by
  obtain ⟨h1, h2, A, c, h3, h4⟩ := k
  rcases h4 with h4 | ⟨rfl, b, h5⟩
  · rw [h4] at h1
    simp at h1
    omega
  · have hil : i < σ.ws.length := by omega
    refine ⟨c, blk_cell h3 0 (by simp [arCells]), ?_, blk_free h5 i, b, hil⟩
    rw [blk_cell h5 i (by simpa using hil)]
    simp [vI, hil]

theorem mod_note {g h : Nat} {w : World} (n : Nat) (kind pos : Int) (wrote : Bool) : Mod [g, h] w ((((w.setCell ⟨g, 2, none⟩ (.int .i64 n)).setCell ⟨g, 3, none⟩ (.int .i64 kind)).setCell ⟨g, 4, none⟩ (.int .i64 pos)).setCell ⟨g, 5, none⟩ (.bool wrote)) :=
  ((((Mod.refl _ _).setCell (by simp) _).setCell (by simp) _).setCell (by simp) _).setCell (by simp) _


theorem len_any (g h : Nat) (σ : Ar) (w : World) (H : ArAt w g h σ) :
    Calls Tryz.prog 28 #[.pointer (some ⟨g, 0, none⟩)] w fun e w' => e = .returned (.int .i64 σ.t) ∧ w' = w := by
  obtain ⟨A, cc, _, g1, _⟩ := H.heads
  clear H
  go_enter Tryz.func28, Tryz.ntmps28
  go_wp2_with fail
  go_ret
  exact ⟨rfl, rfl⟩
theorem len_nil (w : World) : Calls Tryz.prog 28 #[.pointer none] w fun e w' => e = .returned (.int .i64 0) ∧ w' = w := by
  go_enter Tryz.func28, Tryz.ntmps28
  go_wp2_with fail
  go_ret
  exact ⟨rfl, rfl⟩
set_option maxRecDepth 100000 in
theorem word_in (g h k : Nat) (σ : Ar) (w : World) (H : ArAt w g h σ) (hkt : k < σ.t) :
    Calls Tryz.prog 113 #[.pointer (some ⟨g, 0, none⟩), .int .i64 ((k : Int) + 1)] w fun e w' => e = .returned (.pointer (some ⟨h, k, none⟩)) ∧ w' = w := by
  have HL := Lib.hid (len_any g h σ w H)
  obtain ⟨c, g0, hk, fk, hne, hlen⟩ := H.word k hkt
  have t1 : (k : Int) + 1 ≤ (σ.t : Int) := by omega
  have t2 : (1 : Int) ≤ (k : Int) + 1 := by omega
  have t3 : (k : Int) < (σ.ws.length : Int) := by omega
  have t5 : (k : Int) + 1 ≤ 4096 := by have := H.1; have := H.2.1; omega
  clear H hk fk hlen
  go_enter Tryz.func113, Tryz.ntmps113
  go_wp2_with fail
  refine (HL.out).mono ?_
  rintro e wx ⟨rfl, hwx⟩
  obtain rfl := hwx.symm
  go_wp2_with fail
  go_ret
  exact ⟨rfl, rfl⟩
theorem word_out (g h : Nat) (p : Int) (σ : Ar) (w : World) (H : ArAt w g h σ) (hp : p < 1 ∨ (σ.t : Int) < p) :
    Calls Tryz.prog 113 #[.pointer (some ⟨g, 0, none⟩), .int .i64 p] w fun e w' => e = .returned (.pointer none) ∧ w' = w := by
  have HL := Lib.hid (len_any g h σ w H)
  by_cases h0 : p < 1
  · go_enter Tryz.func113, Tryz.ntmps113
    go_wp2_with fail
    go_ret
    exact ⟨rfl, rfl⟩
  · have h1 : (σ.t : Int) < p := by omega
    go_enter Tryz.func113, Tryz.ntmps113
    go_wp2_with fail
    refine (HL.out).mono ?_
    rintro e wx ⟨rfl, hwx⟩
    obtain rfl := hwx.symm
    go_wp2_with fail
    go_ret
    exact ⟨rfl, rfl⟩
theorem word_nil (p : Int) (w : World) : Calls Tryz.prog 113 #[.pointer none, .int .i64 p] w fun e w' => e = .returned (.pointer none) ∧ w' = w := by
  by_cases h0 : p < 1
  · go_enter Tryz.func113, Tryz.ntmps113
    go_wp2_with fail
    go_ret
    exact ⟨rfl, rfl⟩
  · by_cases h1 : 0 < p
    · go_enter Tryz.func113, Tryz.ntmps113
      go_wp2_with fail
      refine (len_nil _).mono ?_
      rintro e wx ⟨rfl, hwx⟩
      obtain rfl := hwx.symm
      go_wp2_with fail
      go_ret
      exact ⟨rfl, rfl⟩
    · omega
theorem note_any (g h : Nat) (kind p : Int) (wrote : Bool) (σ : Ar) (w : World) (H : ArAt w g h σ) (ho : σ.ops ≤ 1000000) :
    Calls Tryz.prog 114 #[.pointer (some ⟨g, 0, none⟩), .int .i64 kind, .int .i64 p, .bool wrote] w fun e w' => e = .returned (.tuple #[]) ∧ ArAt w' g h (σ.did kind p wrote σ.ws) ∧ w' = (((w.setCell ⟨g, 2, none⟩ (.int .i64 ((σ.ops : Int) + 1))).setCell ⟨g, 3, none⟩ (.int .i64 kind)).setCell ⟨g, 4, none⟩ (.int .i64 p)).setCell ⟨g, 5, none⟩ (.bool wrote) := by
  have HN := Lib.hid (H.note (σ.ops + 1) kind p wrote rfl)
  obtain ⟨A, cc, g0, g1, g2, g3, g4, g5, gf⟩ := H.heads
  have f2 := gf 2
  have f3 := gf 3
  have f4 := gf 4
  have f5 := gf 5
  have t4 : (σ.ops : Int) ≤ 1000000 := by omega
  have t5 : (0 : Int) ≤ (σ.ops : Int) := by omega
  clear gf H ho
  go_enter Tryz.func114, Tryz.ntmps114
  go_wp2_with fail
  go_end0
  exact ⟨rfl, HN.out, rfl⟩

section
variable (b k : Nat) (x y : Int) (w : World) (hc : w.cell? ⟨b, k, none⟩ = some (.int .i64 x)) (hz : w.frozen? ⟨b, k, none⟩ = false)
include hc
theorem i_load : Calls Tryz.prog 68 #[.pointer (some ⟨b, k, none⟩)] w fun e w' => e = .returned (.int .i64 x) ∧ w' = w := by
  have ax := at_load hc
  go_enter Tryz.func68, Tryz.ntmps68
  go_wp2_with fail
  go_ret
  exact ⟨rfl, rfl⟩
include hz
theorem i_store : Calls Tryz.prog 115 #[.pointer (some ⟨b, k, none⟩), .int .i64 y] w fun e w' => e = .returned (.tuple #[]) ∧ w' = w.setCell ⟨b, k, none⟩ (.int .i64 y) := by
  have ax := at_store (y := y) hc hz
  go_enter Tryz.func115, Tryz.ntmps115
  go_wp2_with fail
  go_end0
  exact ⟨rfl, rfl⟩
theorem i_swap : Calls Tryz.prog 191 #[.pointer (some ⟨b, k, none⟩), .int .i64 y] w fun e w' => e = .returned (.int .i64 x) ∧ w' = w.setCell ⟨b, k, none⟩ (.int .i64 y) := by
  have ax := at_swap (y := y) hc hz
  go_enter Tryz.func191, Tryz.ntmps191
  go_wp2_with fail
  go_ret
  exact ⟨rfl, rfl⟩
theorem i_add : Calls Tryz.prog 164 #[.pointer (some ⟨b, k, none⟩), .int .i64 y] w fun e w' => e = .returned (.int .i64 (wrap64 (x + y))) ∧ w' = w.setCell ⟨b, k, none⟩ (.int .i64 (wrap64 (x + y))) := by
  have ax := at_add (y := y) hc hz
  go_enter Tryz.func164, Tryz.ntmps164
  go_wp2_with fail
  go_ret
  exact ⟨rfl, rfl⟩
theorem i_cas_hit (v : Int) : Calls Tryz.prog 147 #[.pointer (some ⟨b, k, none⟩), .int .i64 x, .int .i64 v] w fun e w' => e = .returned (.bool true) ∧ w' = w.setCell ⟨b, k, none⟩ (.int .i64 v) := by
  have ax := at_cas_hit (v := v) hc hz
  go_enter Tryz.func147, Tryz.ntmps147
  go_wp2_with fail
  go_ret
  exact ⟨rfl, rfl⟩
theorem i_cas_miss (v : Int) (hne : x ≠ y) : Calls Tryz.prog 147 #[.pointer (some ⟨b, k, none⟩), .int .i64 y, .int .i64 v] w fun e w' => e = .returned (.bool false) ∧ w' = w := by
  have ax := at_cas_miss (v := v) hc hz hne
  go_enter Tryz.func147, Tryz.ntmps147
  go_wp2_with fail
  go_ret
  exact ⟨rfl, rfl⟩
end
end Go.Proofs.YthffhhgaeolpgaaGreat.Ara

/- Package arena: Load, Store, Swap, Cas, Add. -/
namespace Go.Proofs.YthffhhgaeolpgaaGreat.Ara
open Go.RowKit

def Ar.has (σ : Ar) (p : Int) : Bool := decide (1 ≤ p) && decide (p ≤ σ.t)
def Ar.get (σ : Ar) (p : Int) : Int := if σ.has p then σ.ws.getD (p - 1).toNat 0 else 0
def Ar.op (σ : Ar) (kind p : Int) (wrote : Bool) (v : Int) : Ar := if σ.has p then σ.did kind p wrote (if wrote then σ.ws.set (p - 1).toNat v else σ.ws) else σ
theorem Ar.has_in {σ : Ar} {k : Nat} (h : k < σ.t) : σ.has ((k : Int) + 1) = true := by simp [Ar.has]; omega
theorem Ar.get_in {σ : Ar} {k : Nat} (h : k < σ.t) : σ.get ((k : Int) + 1) = σ.ws.getD k 0 := by
  unfold Ar.get
  rw [if_pos (Ar.has_in h), show ((k : Int) + 1 - 1).toNat = k by omega]
theorem Ar.op_in {σ : Ar} {k : Nat} (h : k < σ.t) (kind : Int) (wrote : Bool) (v : Int) : σ.op kind ((k : Int) + 1) wrote v = σ.did kind ((k : Int) + 1) wrote (if wrote then σ.ws.set k v else σ.ws) := by
  unfold Ar.op
  rw [if_pos (Ar.has_in h), show ((k : Int) + 1 - 1).toNat = k by omega]
theorem Ar.not_has {σ : Ar} {p : Int} (h : σ.has p = false) : p < 1 ∨ (σ.t : Int) < p := by
  simp [Ar.has] at h
  omega
theorem Ar.get_out {σ : Ar} {p : Int} (h : σ.has p = false) : σ.get p = 0 := by unfold Ar.get; rw [if_neg (by simp [h])]
theorem Ar.op_out {σ : Ar} {p : Int} (h : σ.has p = false) (kind : Int) (wrote : Bool) (v : Int) : σ.op kind p wrote v = σ := by unfold Ar.op; rw [if_neg (by simp [h])]
theorem Ar.cases (σ : Ar) (p : Int) : σ.has p = false ∨ ∃ k : Nat, k < σ.t ∧ p = (k : Int) + 1 := by
  cases h : σ.has p
  · exact .inl rfl
  · right
    simp [Ar.has] at h
    exact ⟨(p - 1).toNat, by omega, by omega⟩

theorem note_mod (g h : Nat) (kind p : Int) (wrote : Bool) (σ : Ar) (w : World) (H : ArAt w g h σ) (ho : σ.ops ≤ 1000000) :
    Calls Tryz.prog 114 #[.pointer (some ⟨g, 0, none⟩), .int .i64 kind, .int .i64 p, .bool wrote] w fun e w' => e = .returned (.tuple #[]) ∧ ArAt w' g h (σ.did kind p wrote σ.ws) ∧ Mod [g, h] w w' := by
  refine (note_any g h kind p wrote σ w H ho).mono ?_
  rintro e w' ⟨rfl, h1, rfl⟩
  exact ⟨rfl, h1, ((((Mod.refl _ _).setCell (by simp) _).setCell (by simp) _).setCell (by simp) _).setCell (by simp) _⟩


section
variable (g h : Nat) (σ : Ar) (w : World) (H : ArAt w g h σ) (ho : σ.ops ≤ 1000000)
include H ho
theorem load_in (k : Nat) (hkt : k < σ.t) : Calls Tryz.prog 158 #[.pointer (some ⟨g, 0, none⟩), .int .i64 ((k : Int) + 1)] w fun e w' => e = .returned (.int .i64 (σ.ws.getD k 0)) ∧ ArAt w' g h (σ.did 1 ((k : Int) + 1) false σ.ws) ∧ Mod [g, h] w w' := by
  have ho := Lib.hid ho
  have HH := Lib.hid H
  clear H
  go_enter Tryz.func158, Tryz.ntmps158
  go_wp2_with fail
  refine (word_in g h k σ _ HH.out hkt).mono ?_
  rintro e wx ⟨rfl, hwx⟩
  obtain rfl := hwx.symm
  go_wp2_with fail
  refine (note_mod g h 1 ((k : Int) + 1) false σ _ HH.out ho.out).mono ?_
  rintro e w1 ⟨rfl, H1, hm⟩
  obtain ⟨c, _, hk, fk, hne, _⟩ := H1.word k hkt
  simp only [Ar.did] at hk
  have HH1 := Lib.hid H1
  clear H1 hne
  go_wp2_with fail
  refine (i_load h k _ _ hk).mono ?_
  rintro e wx ⟨rfl, hwx⟩
  obtain rfl := hwx.symm
  go_wp2_with fail
  go_ret
  exact ⟨rfl, HH1.out, hm⟩
theorem store_in (k : Nat) (hkt : k < σ.t) (v : Int) : Calls Tryz.prog 83 #[.pointer (some ⟨g, 0, none⟩), .int .i64 ((k : Int) + 1), .int .i64 v] w fun e w' => e = .returned (.tuple #[]) ∧ ArAt w' g h (σ.did 2 ((k : Int) + 1) true (σ.ws.set k v)) ∧ Mod [g, h] w w' := by
  have ho := Lib.hid ho
  have HH := Lib.hid H
  clear H
  go_enter Tryz.func83, Tryz.ntmps83
  go_wp2_with fail
  refine (word_in g h k σ _ HH.out hkt).mono ?_
  rintro e wx ⟨rfl, hwx⟩
  obtain rfl := hwx.symm
  go_wp2_with fail
  refine (note_mod g h 2 ((k : Int) + 1) true σ _ HH.out ho.out).mono ?_
  rintro e w1 ⟨rfl, H1, hm⟩
  obtain ⟨c, _, hk, fk, hne, _⟩ := H1.word k hkt
  simp only [Ar.did] at hk
  have HH1 := Lib.hid H1
  clear H1 hne
  go_wp2_with fail
  refine (i_store h k _ v _ hk fk).mono ?_
  rintro e w2 ⟨rfl, hw2⟩
  have HF := Lib.hid (HH1.out.put k v hkt)
  have HM := hm.setCell (p := ⟨h, k, none⟩) (by simp) (.int .i64 v)
  rw [← hw2] at HF HM
  clear hw2
  go_wp2_with fail
  go_end0
  exact ⟨rfl, HF.out, HM⟩
theorem swap_in (k : Nat) (hkt : k < σ.t) (v : Int) : Calls Tryz.prog 190 #[.pointer (some ⟨g, 0, none⟩), .int .i64 ((k : Int) + 1), .int .i64 v] w fun e w' => e = .returned (.int .i64 (σ.ws.getD k 0)) ∧ ArAt w' g h (σ.did 3 ((k : Int) + 1) true (σ.ws.set k v)) ∧ Mod [g, h] w w' := by
  have ho := Lib.hid ho
  have HH := Lib.hid H
  clear H
  go_enter Tryz.func190, Tryz.ntmps190
  go_wp2_with fail
  refine (word_in g h k σ _ HH.out hkt).mono ?_
  rintro e wx ⟨rfl, hwx⟩
  obtain rfl := hwx.symm
  go_wp2_with fail
  refine (note_mod g h 3 ((k : Int) + 1) true σ _ HH.out ho.out).mono ?_
  rintro e w1 ⟨rfl, H1, hm⟩
  obtain ⟨c, _, hk, fk, hne, _⟩ := H1.word k hkt
  simp only [Ar.did] at hk
  have HH1 := Lib.hid H1
  clear H1 hne
  go_wp2_with fail
  refine (i_swap h k _ v _ hk fk).mono ?_
  rintro e w2 ⟨rfl, hw2⟩
  have HF := Lib.hid (HH1.out.put k v hkt)
  have HM := hm.setCell (p := ⟨h, k, none⟩) (by simp) (.int .i64 v)
  rw [← hw2] at HF HM
  clear hw2
  go_wp2_with fail
  go_ret
  exact ⟨rfl, HF.out, HM⟩
theorem add_in (k : Nat) (hkt : k < σ.t) (d : Int) : Calls Tryz.prog 163 #[.pointer (some ⟨g, 0, none⟩), .int .i64 ((k : Int) + 1), .int .i64 d] w fun e w' => e = .returned (.int .i64 (wrap64 (σ.ws.getD k 0 + d))) ∧ ArAt w' g h (σ.did 5 ((k : Int) + 1) true (σ.ws.set k (wrap64 (σ.ws.getD k 0 + d)))) ∧ Mod [g, h] w w' := by
  have ho := Lib.hid ho
  have HH := Lib.hid H
  clear H
  go_enter Tryz.func163, Tryz.ntmps163
  go_wp2_with fail
  refine (word_in g h k σ _ HH.out hkt).mono ?_
  rintro e wx ⟨rfl, hwx⟩
  obtain rfl := hwx.symm
  go_wp2_with fail
  refine (note_mod g h 5 ((k : Int) + 1) true σ _ HH.out ho.out).mono ?_
  rintro e w1 ⟨rfl, H1, hm⟩
  obtain ⟨c, _, hk, fk, hne, _⟩ := H1.word k hkt
  simp only [Ar.did] at hk
  have HH1 := Lib.hid H1
  clear H1 hne
  go_wp2_with fail
  refine (i_add h k _ d _ hk fk).mono ?_
  rintro e w2 ⟨rfl, hw2⟩
  have HF := Lib.hid (HH1.out.put k (wrap64 (σ.ws.getD k 0 + d)) hkt)
  have HM := hm.setCell (p := ⟨h, k, none⟩) (by simp) (.int .i64 (wrap64 (σ.ws.getD k 0 + d)))
  rw [← hw2] at HF HM
  clear hw2
  go_wp2_with fail
  go_ret
  exact ⟨rfl, HF.out, HM⟩
set_option maxRecDepth 100000 in
theorem cas_hit (k : Nat) (hkt : k < σ.t) (v : Int) : Calls Tryz.prog 146 #[.pointer (some ⟨g, 0, none⟩), .int .i64 ((k : Int) + 1), .int .i64 (σ.ws.getD k 0), .int .i64 v] w fun e w' => e = .returned (.bool true) ∧ ArAt w' g h (σ.did 4 ((k : Int) + 1) true (σ.ws.set k v)) ∧ Mod [g, h] w w' := by
  obtain ⟨c, _, hk, fk, hne, _⟩ := H.word k hkt
  generalize σ.ws.getD k 0 = x at hk ⊢
  have ho := Lib.hid ho
  have HH := Lib.hid H
  clear H
  go_enter Tryz.func146, Tryz.ntmps146
  go_wp2_with fail
  refine (word_in g h k σ _ HH.out hkt).mono ?_
  rintro e wx ⟨rfl, hwx⟩
  obtain rfl := hwx.symm
  go_wp2_with fail
  refine (i_cas_hit h k x w hk fk v).mono ?_
  rintro e w2 ⟨rfl, hw2⟩
  have HF := Lib.hid (HH.out.put k v hkt)
  have HM := (Mod.refl [g, h] w).setCell (p := ⟨h, k, none⟩) (by simp) (.int .i64 v)
  rw [← hw2] at HF HM
  clear hw2 hne
  go_wp2_with fail
  refine (note_mod g h 4 ((k : Int) + 1) true _ _ HF.out ho.out).mono ?_
  rintro e w1 ⟨rfl, H1, hm⟩
  have HH1 := Lib.hid H1
  clear H1
  go_wp2_with fail
  go_ret
  exact ⟨rfl, HH1.out, HM.trans hm⟩
set_option maxRecDepth 100000 in
theorem cas_miss (k : Nat) (hkt : k < σ.t) (old v : Int) (hne : σ.ws.getD k 0 ≠ old) : Calls Tryz.prog 146 #[.pointer (some ⟨g, 0, none⟩), .int .i64 ((k : Int) + 1), .int .i64 old, .int .i64 v] w fun e w' => e = .returned (.bool false) ∧ ArAt w' g h (σ.did 4 ((k : Int) + 1) false σ.ws) ∧ Mod [g, h] w w' := by
  obtain ⟨c, _, hk, fk, hn, _⟩ := H.word k hkt
  generalize σ.ws.getD k 0 = x at hk hne
  have ho := Lib.hid ho
  have HH := Lib.hid H
  clear H
  have HN := Lib.hid hne
  clear hne hn
  go_enter Tryz.func146, Tryz.ntmps146
  go_wp2_with fail
  refine (word_in g h k σ _ HH.out hkt).mono ?_
  rintro e wx ⟨rfl, hwx⟩
  obtain rfl := hwx.symm
  go_wp2_with fail
  refine (i_cas_miss h k x old w hk fk v HN.out).mono ?_
  rintro e wx ⟨rfl, hwx⟩
  obtain rfl := hwx.symm
  go_wp2_with fail
  refine (note_mod g h 4 ((k : Int) + 1) false _ _ HH.out ho.out).mono ?_
  rintro e w1 ⟨rfl, H1, hm⟩
  have HH1 := Lib.hid H1
  clear H1
  go_wp2_with fail
  go_ret
  exact ⟨rfl, HH1.out, hm⟩
end

/-! Of a word that is not there. -/
section
variable (g h : Nat) (σ : Ar) (w : World) (p : Int)
theorem load_no (q : Option Addr) (hw : Calls Tryz.prog 113 #[.pointer q, .int .i64 p] w fun e w' => e = .returned (.pointer none) ∧ w' = w) : Calls Tryz.prog 158 #[.pointer q, .int .i64 p] w fun e w' => e = .returned (.int .i64 0) ∧ w' = w := by
  have HW := Lib.hid hw
  clear hw
  go_enter Tryz.func158, Tryz.ntmps158
  go_wp2_with fail
  refine (HW.out).mono ?_
  rintro e wx ⟨rfl, hwx⟩
  obtain rfl := hwx.symm
  go_wp2_with fail
  go_ret
  exact ⟨rfl, rfl⟩
theorem store_no (q : Option Addr) (v : Int) (hw : Calls Tryz.prog 113 #[.pointer q, .int .i64 p] w fun e w' => e = .returned (.pointer none) ∧ w' = w) : Calls Tryz.prog 83 #[.pointer q, .int .i64 p, .int .i64 v] w fun e w' => e = .returned (.tuple #[]) ∧ w' = w := by
  have HW := Lib.hid hw
  clear hw
  go_enter Tryz.func83, Tryz.ntmps83
  go_wp2_with fail
  refine (HW.out).mono ?_
  rintro e wx ⟨rfl, hwx⟩
  obtain rfl := hwx.symm
  go_wp2_with fail
  go_end0
  exact ⟨rfl, rfl⟩
theorem swap_no (q : Option Addr) (v : Int) (hw : Calls Tryz.prog 113 #[.pointer q, .int .i64 p] w fun e w' => e = .returned (.pointer none) ∧ w' = w) : Calls Tryz.prog 190 #[.pointer q, .int .i64 p, .int .i64 v] w fun e w' => e = .returned (.int .i64 0) ∧ w' = w := by
  have HW := Lib.hid hw
  clear hw
  go_enter Tryz.func190, Tryz.ntmps190
  go_wp2_with fail
  refine (HW.out).mono ?_
  rintro e wx ⟨rfl, hwx⟩
  obtain rfl := hwx.symm
  go_wp2_with fail
  go_ret
  exact ⟨rfl, rfl⟩
theorem add_no (q : Option Addr) (v : Int) (hw : Calls Tryz.prog 113 #[.pointer q, .int .i64 p] w fun e w' => e = .returned (.pointer none) ∧ w' = w) : Calls Tryz.prog 163 #[.pointer q, .int .i64 p, .int .i64 v] w fun e w' => e = .returned (.int .i64 0) ∧ w' = w := by
  have HW := Lib.hid hw
  clear hw
  go_enter Tryz.func163, Tryz.ntmps163
  go_wp2_with fail
  refine (HW.out).mono ?_
  rintro e wx ⟨rfl, hwx⟩
  obtain rfl := hwx.symm
  go_wp2_with fail
  go_ret
  exact ⟨rfl, rfl⟩
theorem cas_no (q : Option Addr) (v u : Int) (hw : Calls Tryz.prog 113 #[.pointer q, .int .i64 p] w fun e w' => e = .returned (.pointer none) ∧ w' = w) : Calls Tryz.prog 146 #[.pointer q, .int .i64 p, .int .i64 u, .int .i64 v] w fun e w' => e = .returned (.bool false) ∧ w' = w := by
  have HW := Lib.hid hw
  clear hw
  go_enter Tryz.func146, Tryz.ntmps146
  go_wp2_with fail
  refine (HW.out).mono ?_
  rintro e wx ⟨rfl, hwx⟩
  obtain rfl := hwx.symm
  go_wp2_with fail
  go_ret
  exact ⟨rfl, rfl⟩
end

/-! Whatever the word. -/
section
variable (g h : Nat) (σ : Ar) (w : World) (H : ArAt w g h σ) (ho : σ.ops ≤ 1000000) (p : Int)
include H ho
theorem load_any : Calls Tryz.prog 158 #[.pointer (some ⟨g, 0, none⟩), .int .i64 p] w fun e w' => e = .returned (.int .i64 (σ.get p)) ∧ ArAt w' g h (σ.op 1 p false 0) ∧ Mod [g, h] w w' := by
  rcases σ.cases p with hh | ⟨k, hk, rfl⟩
  · rw [Ar.get_out hh, Ar.op_out hh]
    exact (load_no w p _ (word_out g h p σ w H (Ar.not_has hh))).mono fun e w' ⟨h1, h2⟩ => ⟨h1, by rw [h2]; exact H, by rw [h2]; exact Mod.refl _ _⟩
  · rw [Ar.get_in hk, Ar.op_in hk]
    exact load_in g h σ w H ho k hk
theorem store_any (v : Int) : Calls Tryz.prog 83 #[.pointer (some ⟨g, 0, none⟩), .int .i64 p, .int .i64 v] w fun e w' => e = .returned (.tuple #[]) ∧ ArAt w' g h (σ.op 2 p true v) ∧ Mod [g, h] w w' := by
  rcases σ.cases p with hh | ⟨k, hk, rfl⟩
  · rw [Ar.op_out hh]
    exact (store_no w p _ v (word_out g h p σ w H (Ar.not_has hh))).mono fun e w' ⟨h1, h2⟩ => ⟨h1, by rw [h2]; exact H, by rw [h2]; exact Mod.refl _ _⟩
  · rw [Ar.op_in hk]
    exact store_in g h σ w H ho k hk v
theorem swap_any (v : Int) : Calls Tryz.prog 190 #[.pointer (some ⟨g, 0, none⟩), .int .i64 p, .int .i64 v] w fun e w' => e = .returned (.int .i64 (σ.get p)) ∧ ArAt w' g h (σ.op 3 p true v) ∧ Mod [g, h] w w' := by
  rcases σ.cases p with hh | ⟨k, hk, rfl⟩
  · rw [Ar.get_out hh, Ar.op_out hh]
    exact (swap_no w p _ v (word_out g h p σ w H (Ar.not_has hh))).mono fun e w' ⟨h1, h2⟩ => ⟨h1, by rw [h2]; exact H, by rw [h2]; exact Mod.refl _ _⟩
  · rw [Ar.get_in hk, Ar.op_in hk]
    exact swap_in g h σ w H ho k hk v
theorem add_any (d : Int) : Calls Tryz.prog 163 #[.pointer (some ⟨g, 0, none⟩), .int .i64 p, .int .i64 d] w fun e w' => e = .returned (.int .i64 (if σ.has p then wrap64 (σ.get p + d) else 0)) ∧ ArAt w' g h (σ.op 5 p true (wrap64 (σ.get p + d))) ∧ Mod [g, h] w w' := by
  rcases σ.cases p with hh | ⟨k, hk, rfl⟩
  · rw [Ar.op_out hh, if_neg (by simp [hh])]
    exact (add_no w p _ d (word_out g h p σ w H (Ar.not_has hh))).mono fun e w' ⟨h1, h2⟩ => ⟨h1, by rw [h2]; exact H, by rw [h2]; exact Mod.refl _ _⟩
  · rw [if_pos (Ar.has_in hk), Ar.get_in hk, Ar.op_in hk]
    exact add_in g h σ w H ho k hk d
theorem cas_any (old v : Int) : Calls Tryz.prog 146 #[.pointer (some ⟨g, 0, none⟩), .int .i64 p, .int .i64 old, .int .i64 v] w fun e w' => e = .returned (.bool (σ.has p && (σ.get p == old))) ∧ ArAt w' g h (σ.op 4 p (σ.has p && (σ.get p == old)) v) ∧ Mod [g, h] w w' := by
  rcases σ.cases p with hh | ⟨k, hk, rfl⟩
  · rw [Ar.op_out hh, hh]
    exact (cas_no w p _ v old (word_out g h p σ w H (Ar.not_has hh))).mono fun e w' ⟨h1, h2⟩ => ⟨h1, by rw [h2]; exact H, by rw [h2]; exact Mod.refl _ _⟩
  · rw [Ar.has_in hk, Ar.get_in hk, Ar.op_in hk, Bool.true_and]
    by_cases he : σ.ws.getD k 0 = old
    · subst he
      rw [beq_self_eq_true]
      exact cas_hit g h σ w H ho k hk v
    · rw [beq_eq_false_iff_ne.2 he]
      exact cas_miss g h σ w H ho k hk old v he
end
end Go.Proofs.YthffhhgaeolpgaaGreat.Ara

/- Package arena: New, Take, Ops, Last, Words. -/
namespace Go.Proofs.YthffhhgaeolpgaaGreat.Ara
open Go.RowKit

theorem frame22 {a : Act} (h : a.tmps.size = 22) (hd : a.defers = []) : ∃ u : Nat → Value, a = { tmps := #[u 0, u 1, u 2, u 3, u 4, u 5, u 6, u 7, u 8, u 9, u 10, u 11, u 12, u 13, u 14, u 15, u 16, u 17, u 18, u 19, u 20, u 21], defers := [] } ∧ ∀ n, a.tmps.getD n undef = u n := by
  refine ⟨fun n => a.tmps.getD n undef, ?_, fun _ => rfl⟩
  have h1 := arr_lit a.tmps h
  cases a with
  | mk t d =>
    simp only at hd h1
    subst hd
    congr 1
theorem infoW : (Tryz.prog.info? 137).map (fun i => (i.zero, i.size, i.bytes)) = some (some (.agg #[.int .i64 0]), 1, 8) := by kernel_rfl
theorem infoI : (Tryz.prog.info? 3).map (fun i => (i.zero, i.size, i.bytes)) = some (some (.int .i64 0), 1, 8) := by kernel_rfl
def zerosW (n : Nat) : List Int := List.replicate n 0
theorem zeros_flat (n : Nat) : ((List.replicate n ((Value.agg #[.int .i64 0]).cells.toList)).flatten).toArray = ((zerosW n).map vI).toArray := by
  congr 1
  induction n with
  | zero => rfl
  | succ n ih => rw [List.replicate_succ, List.flatten_cons, ih, zerosW, zerosW, List.replicate_succ, List.map_cons]; rfl
theorem make_zeros (n : Nat) (h : n ≤ 65536) (W : World) : (Instr.makeSlice 92 (.int .i64 (n : Int)) (.int .i64 (n : Int))).run Tryz.prog W = .ok (.slice (some ⟨W.heap.size, 0, none⟩) n n) (W.alloc (.cells ((zerosW n).map vI).toArray 137)) := by
  rw [run_make_rows (P := Tryz.prog) 92 137 (.agg #[.int .i64 0]) 1 8 Tryz.underlying92 infoW rfl .i64 .i64 n (by omega) (by omega) W, zeros_flat]

def room (t : Int) : Nat := if t < 0 then 0 else if 4096 < t then 4096 else t.toNat
theorem room_le (t : Int) : room t ≤ 4096 := by unfold room; split; omega; split <;> omega
def Ar.fresh (m : Nat) : Ar := ⟨zerosW m, 0, 0, 0, 0, false⟩

theorem new_in (t : Int) (w : World) :
    Calls Tryz.prog 10 #[.int .i64 t] w fun e w' => e = .returned (.pointer (some ⟨w.heap.size + 1, 0, none⟩)) ∧ ArAt w' (w.heap.size + 1) w.heap.size (Ar.fresh (room t)) ∧ w'.heap.size = w.heap.size + 1 + 1 ∧ Below w.heap.size w w' := by
  have hfin : ∀ c, c ≤ 4096 → Hid (ArAt ((w.alloc (.cells ((zerosW c).map vI).toArray 137)).alloc (.cells #[.slice (some ⟨w.heap.size, 0, none⟩) c c, .int .i64 0, .int .i64 0, .int .i64 0, .int .i64 0, .bool false] 94)) (w.heap.size + 1) w.heap.size (Ar.fresh c) ∧
      ((w.alloc (.cells ((zerosW c).map vI).toArray 137)).alloc (.cells #[.slice (some ⟨w.heap.size, 0, none⟩) c c, .int .i64 0, .int .i64 0, .int .i64 0, .int .i64 0, .bool false] 94)).heap.size = w.heap.size + 1 + 1 ∧
      Below w.heap.size w ((w.alloc (.cells ((zerosW c).map vI).toArray 137)).alloc (.cells #[.slice (some ⟨w.heap.size, 0, none⟩) c c, .int .i64 0, .int .i64 0, .int .i64 0, .int .i64 0, .bool false] 94))) := fun c hc => by
    have hl : (zerosW c).length = c := by simp [zerosW]
    refine Lib.hid ⟨⟨Nat.zero_le _, by show (zerosW c).length ≤ 4096; rw [hl]; exact hc, some ⟨w.heap.size, 0, none⟩, c, ?_, .inr ⟨rfl, by omega, ?_⟩⟩, by simp, (below_new _ _).alloc (by simp) _⟩
    · show _ = some (Obj.cells #[.slice (some ⟨w.heap.size, 0, none⟩) (zerosW c).length c, .int .i64 0, .int .i64 0, .int .i64 0, .int .i64 0, .bool false] _ _)
      rw [hl]
      exact heap_alloc2_new _ _ _
    · exact heap_alloc2_old _ _ _
  by_cases h0 : t ≤ 0
  · rw [show room t = 0 by unfold room; by_cases h : t < 0; rw [if_pos h]; rw [if_neg h, if_neg (by omega)]; omega]
    have hf := hfin 0 (by omega)
    clear hfin
    have hmk : ∀ W, (Instr.makeSlice 92 (.int .i64 0) (.int .i64 0)).run Tryz.prog W = .ok (.slice (some ⟨W.heap.size, 0, none⟩) 0 0) (W.alloc (.cells ((zerosW 0).map vI).toArray 137)) := fun W => make_zeros 0 (by omega) W
    have hm2 : t ≤ 4096 := by omega
    by_cases h0 : t = 0
    all_goals
      go_enter Tryz.func10, Tryz.ntmps10
      go_wp2_with fail
      go_ret
      exact ⟨rfl, hf.out⟩
  · by_cases h1 : 4096 < t
    · rw [show room t = 4096 by unfold room; rw [if_neg (by omega), if_pos h1]]
      have hf := hfin 4096 (by omega)
      clear hfin
      have hmk : ∀ W, (Instr.makeSlice 92 (.int .i64 4096) (.int .i64 4096)).run Tryz.prog W = .ok (.slice (some ⟨W.heap.size, 0, none⟩) 4096 4096) (W.alloc (.cells ((zerosW 4096).map vI).toArray 137)) := fun W => make_zeros 4096 (by omega) W
      generalize hz : ((zerosW 4096).map vI).toArray = zz at hmk hf
      clear hz
      go_enter Tryz.func10, Tryz.ntmps10
      go_wp2_with fail
      go_ret
      exact ⟨rfl, hf.out⟩
    · obtain ⟨c, rfl⟩ := Int.eq_ofNat_of_zero_le (show 0 ≤ t by omega)
      rw [show room c = c by unfold room; rw [if_neg (by omega), if_neg h1]; omega]
      have hf := hfin c (by omega)
      clear hfin
      have hmk := fun W => make_zeros c (by omega) W
      have h1 : (c : Int) ≤ 4096 := by omega
      have h2 : (0 : Int) ≤ (c : Int) := by omega
      go_enter Tryz.func10, Tryz.ntmps10
      go_wp2_with fail
      go_ret
      exact ⟨rfl, hf.out⟩

def Ar.take (σ : Ar) (n : Int) : (Int × Int) × Ar :=
  if n < 0 then ((0, 1), σ) else if (σ.ws.length : Int) - σ.t < n then ((0, 3), σ) else (((σ.t : Int) + 1, 0), { σ with t := σ.t + n.toNat })
theorem ArAt.taken {w : World} {g h : Nat} {σ : Ar} (k : ArAt w g h σ) (n : Nat) (hn : σ.t + n ≤ σ.ws.length) : ArAt (w.setCell ⟨g, 1, none⟩ (.int .i64 ((σ.t : Int) + n))) g h { σ with t := σ.t + n } := by
  obtain ⟨h1, h2, A, c, h3, h4⟩ := k
  refine ⟨hn, h2, A, c, ?_, ?_⟩
  · rw [blk_set h3]
    rfl
  · rcases h4 with h4 | ⟨a, b, c⟩
    · exact .inl h4
    · exact .inr ⟨a, b, blk_other c b _⟩
theorem take_any (g h : Nat) (σ : Ar) (w : World) (H : ArAt w g h σ) (n : Int) :
    Calls Tryz.prog 81 #[.pointer (some ⟨g, 0, none⟩), .int .i64 n] w fun e w' => e = .returned (.tuple #[.int .i64 (σ.take n).1.1, .int .i64 (σ.take n).1.2]) ∧ ArAt w' g h (σ.take n).2 ∧ Mod [g, h] w w' := by
  unfold Ar.take
  by_cases h0 : n < 0
  · rw [if_pos h0]
    go_enter Tryz.func81, Tryz.ntmps81
    go_wp2_with fail
    go_ret2
    exact ⟨rfl, H, Mod.refl _ _⟩
  rw [if_neg h0]
  obtain ⟨m, rfl⟩ := Int.eq_ofNat_of_zero_le (show 0 ≤ n by omega)
  obtain ⟨A, cc, g0, g1, _, _, _, _, gf⟩ := H.heads
  have f1 := gf 1
  have h11 := H.1
  have h22 := H.2.1
  have b0 : (σ.ws.length : Int) ≤ 4096 := by omega
  have b1 : (σ.t : Int) ≤ (σ.ws.length : Int) := by omega
  have HH := Lib.hid H
  clear gf H
  by_cases h1 : (σ.ws.length : Int) - σ.t < (m : Int)
  · rw [if_pos h1]
    go_enter Tryz.func81, Tryz.ntmps81
    go_wp2_with fail
    go_quiet (fail)
    go_wp2_with fail
    go_ret2
    exact ⟨rfl, HH.out.drewN _, (Mod.refl _ _).drewN _⟩
  · rw [if_neg h1]
    have HT := Lib.hid (HH.out.taken m (by omega))
    have b2 : (m : Int) ≤ 4096 := by omega
    go_enter Tryz.func81, Tryz.ntmps81
    go_wp2_with fail
    go_quiet (fail)
    go_wp2_with fail
    go_ret2
    exact ⟨rfl, HT.out, ((Mod.refl _ _).drewN _).setCell (by simp) _⟩
theorem take_nil (n : Int) (w : World) :
    Calls Tryz.prog 81 #[.pointer none, .int .i64 n] w fun e w' => e = .returned (.tuple #[.int .i64 (if n = 0 then 1 else 0), .int .i64 (if n < 0 then 1 else if n = 0 then 0 else 3)]) ∧ Below w.heap.size w w' := by
  by_cases h0 : n < 0
  · rw [if_neg (by omega), if_pos h0]
    go_enter Tryz.func81, Tryz.ntmps81
    go_wp2_with fail
    go_ret2
    exact ⟨rfl, Below.refl _ _⟩
  · by_cases h1 : n = 0
    · subst h1
      rw [if_pos rfl, if_neg (by omega), if_pos rfl]
      go_enter Tryz.func81, Tryz.ntmps81
      go_wp2_with fail
      go_ret2
      exact ⟨rfl, Below.refl _ _⟩
    · rw [if_neg h1, if_neg h0, if_neg h1]
      have e1 := ibeq_no h1
      clear h1
      go_enter Tryz.func81, Tryz.ntmps81
      go_wp2_with fail
      go_quiet (fail)
      go_wp2_with fail
      go_ret2
      exact ⟨rfl, below_drewN (Below.refl _ _) _⟩

theorem ops_any (g h : Nat) (σ : Ar) (w : World) (H : ArAt w g h σ) : Calls Tryz.prog 22 #[.pointer (some ⟨g, 0, none⟩)] w fun e w' => e = .returned (.int .i64 σ.ops) ∧ w' = w := by
  obtain ⟨A, cc, _, _, g2, _⟩ := H.heads
  clear H
  go_enter Tryz.func22, Tryz.ntmps22
  go_wp2_with fail
  go_ret
  exact ⟨rfl, rfl⟩
theorem ops_nil (w : World) : Calls Tryz.prog 22 #[.pointer none] w fun e w' => e = .returned (.int .i64 0) ∧ w' = w := by
  go_enter Tryz.func22, Tryz.ntmps22
  go_wp2_with fail
  go_ret
  exact ⟨rfl, rfl⟩
def WdJ (g : Nat) (σ : Ar) (w : World) (a : Act) (W : World) : Prop :=
  a.tmps.size = 22 ∧ a.defers = [] ∧ a.tmps.getD 0 undef = .pointer (some ⟨g, 0, none⟩) ∧ a.tmps.getD 6 undef = .int .i64 σ.t ∧
    ∃ (k : Nat) (v : Value), a.tmps.getD 7 undef = .int .i64 k ∧ a.tmps.getD 3 undef = v ∧ k ≤ σ.t ∧ W.ownsRow w.heap.size 3 1 v k ((σ.ws.take k).map vI) ∧ Below w.heap.size w W
set_option maxHeartbeats 1000000 in
set_option maxRecDepth 100000 in
theorem words_any (g h : Nat) (σ : Ar) (w : World) (H : ArAt w g h σ) : Calls Tryz.prog 21 #[.pointer (some ⟨g, 0, none⟩)] w fun e w' => ∃ v, e = .returned v ∧ w'.ownsRow w.heap.size 3 1 v σ.t ((σ.ws.take σ.t).map vI) ∧ Below w.heap.size w w' := by
  have HL := Lib.hid (len_any g h σ w H)
  have ht := H.1
  have hl := H.2.1
  have HH := Lib.hid H
  clear H
  go_enter Tryz.func21, Tryz.ntmps21
  go_wp2_with fail
  refine (HL.out).mono ?_
  rintro e wx ⟨rfl, hwx⟩
  obtain rfl := hwx.symm
  go_wp2_with fail
  refine wp_loop (WdJ g σ w) (fun a' _ => σ.t - (intOf (a'.tmps.getD 7 undef)).toNat) ?_ ?_
  · exact ⟨rfl, rfl, rfl, rfl, 0, _, rfl, rfl, Nat.zero_le _, (World.ownsRow_nil _ _ _ _ : w.ownsRow w.heap.size 3 1 (.slice none 0 0) 0 []), Below.refl _ _⟩
  · rintro a' W ⟨hsz, hdf, s0, s6, k, v, s7, s3, hk, hown, hb⟩
    obtain ⟨u, rfl, hu⟩ := frame22 hsz hdf
    rw [hu] at s0 s6 s7 s3
    simp only [s0, s6, s7, s3]
    clear hsz hdf s0 s6 s7 s3 hu
    by_cases hlt : k < σ.t
    · obtain ⟨c, g0, hc, fz, hne, hkl⟩ := (HH.out.step hb).word k hlt
      have hst := Lib.hid (show (σ.ws.take (k + 1)).map vI = (σ.ws.take k).map vI ++ [.int .i64 (σ.ws.getD k 0)] by
        rw [List.take_succ_eq_append_getElem hkl, List.map_append]
        simp [vI, hkl])
      have k1 : (k : Int) < (σ.ws.length : Int) := by omega
      generalize σ.ws.getD k 0 = x at *
      generalize (σ.ws.take k).map vI = xs at *
      clear hne fz hkl
      go_wp2_with fail
      refine (i_load h k x _ hc).mono ?_
      rintro e wx ⟨rfl, hwx⟩
      obtain rfl := hwx.symm
      go_wp2_with (at_builtin; refine wpList_append1 (.tmp 10) (.tmp 18) 43 3 _ 1 8 rfl rfl Tryz.underlying43 infoI rfl (by decide) w.heap.size _ _ _ _ _ _ _ _ hown rfl rfl ?cg rfl ?d1 ?d2 ?d3 ?d4 ?ck; case' ck => intro v' W3 hown3 hb3 _)
      case cg => first | rfl | simp
      case d1 => simp [Value.oneCell']
      case d2 => simp only [maxLen]; omega
      case d3 => omega
      case d4 => exact hb.size
      exact ⟨⟨rfl, rfl, rfl, rfl, k + 1, v', rfl, rfl, hlt, by rw [hst.out]; simpa using hown3, hb.trans hb3⟩, by simp [intOf]; omega⟩
    · obtain rfl : k = σ.t := by omega
      go_wp2_with fail
      go_ret
      exact ⟨_, rfl, hown, hb⟩
end Go.Proofs.YthffhhgaeolpgaaGreat.Ara

/- Worlds that are as they were below a block, but for listed ones. -/
namespace Go.Proofs.YthffhhgaeolpgaaGreat
open Go.RowKit

structure Upd (B : Nat) (S : List Nat) (a w : World) : Prop where
  os : w.os = a.os
  tape : w.tape = a.tape
  output : w.output = a.output
  size : a.heap.size ≤ w.heap.size
  block : ∀ k, k < B → k ∉ S → w.heap[k]? = a.heap[k]?

theorem Upd.refl (B : Nat) (S : List Nat) (w : World) : Upd B S w w := ⟨rfl, rfl, rfl, Nat.le_refl _, fun _ _ _ => rfl⟩
theorem Upd.trans {B : Nat} {S : List Nat} {a b c : World} (h : Upd B S a b) (k : Upd B S b c) : Upd B S a c :=
  ⟨k.os.trans h.os, k.tape.trans h.tape, k.output.trans h.output, Nat.le_trans h.size k.size, fun i hi hn => (k.block i hi hn).trans (h.block i hi hn)⟩
theorem Upd.of_mod {B : Nat} {S : List Nat} {a w : World} (h : Mod S a w) (hB : B ≤ a.heap.size) : Upd B S a w := ⟨h.os, h.tape, h.output, h.size, fun k hk hn => h.block k (by omega) hn⟩
theorem Upd.of_below {B : Nat} {S : List Nat} {a w : World} (h : Below B a w) : Upd B S a w := ⟨h.os, h.tape, h.output, h.size, fun k hk _ => h.block k hk⟩
theorem Upd.setCell {B : Nat} {S : List Nat} {a w : World} (h : Upd B S a w) {p : Addr} (hp : p.block ∈ S ∨ B ≤ p.block) (u : Value) : Upd B S a (w.setCell p u) :=
  h.trans ⟨rfl, rfl, rfl, by simp [World.setCell], fun k hk hn => Below.heap_setCell _ _ _ _ (fun e => by
    rcases hp with hp | hp
    · exact hn (e ▸ hp)
    · omega)⟩
theorem Upd.drewN {B : Nat} {S : List Nat} {a w : World} (h : Upd B S a w) (n : Nat) : Upd B S a (w.drewN n) := ⟨h.os, h.tape, h.output, h.size, h.block⟩
theorem Upd.drew {B : Nat} {S : List Nat} {a w : World} (h : Upd B S a w) : Upd B S a w.drew := ⟨h.os, h.tape, h.output, h.size, h.block⟩
theorem Upd.sub {B B' : Nat} {S T : List Nat} {a w : World} (h : Upd B S a w) (hB : B' ≤ B) (hs : ∀ k, k ∈ S → k ∈ T) : Upd B' T a w :=
  ⟨h.os, h.tape, h.output, h.size, fun k hk hn => h.block k (by omega) (fun e => hn (hs k e))⟩
theorem Upd.blk {B : Nat} {S : List Nat} {a w : World} (h : Upd B S a w) {g : Nat} {o : Option Obj} (hg : a.heap[g]? = o) (hB : g < B) (hn : g ∉ S) : w.heap[g]? = o := (h.block g hB hn).trans hg
theorem Upd.below {B B' : Nat} {S : List Nat} {a w : World} (h : Upd B S a w) (hB : B' ≤ B) (hS : ∀ k ∈ S, B' ≤ k) : Below B' a w :=
  ⟨h.os, h.tape, h.output, h.size, fun k hk => h.block k (by omega) (fun e => by have := hS k e; omega)⟩
end Go.Proofs.YthffhhgaeolpgaaGreat

