/- Merged texts: Lo2, FlO1, Qu, Qu2, Fr1, Fr2. -/
import Derived.Test.YtfmiioddhpkdkaaGreatWh15
set_option linter.unusedVariables false
/- Package locks: New, by what make does. -/
namespace Go.Proofs.YtfmiioddhpkdkaaGreat.Lk
open Go.RowKit Go.Proofs.YtfmiioddhpkdkaaGreat.Ara Go.Proofs.YtfmiioddhpkdkaaGreat.Tp

theorem neq_2 : (ByteArray.toList ⟨#[116, 105, 99, 107, 101, 116]⟩).isEmpty = false := by kernel_rfl
theorem neq_3 : (ByteArray.toList ⟨#[112, 97, 114, 116, 101, 100]⟩).isEmpty = false := by kernel_rfl
theorem neq_4 : (ByteArray.toList ⟨#[109, 99, 115]⟩).isEmpty = false := by kernel_rfl
theorem neq_5 : (ByteArray.toList ⟨#[99, 108, 104]⟩).isEmpty = false := by kernel_rfl
theorem neq_6 : (ByteArray.toList ⟨#[99, 111, 104, 111, 114, 116]⟩).isEmpty = false := by kernel_rfl
def Named (kind : Int) : Prop := ∃ nm : ByteArray, nm.toList.isEmpty = false ∧ ∀ W, Calls Tryz.prog 56 #[.int .i64 kind] W fun e w' => e = .returned (.string nm) ∧ Below W.heap.size W w'
theorem named_2 : Named 2 := ⟨_, neq_2, name_2⟩
theorem named_3 : Named 3 := ⟨_, neq_3, name_3⟩
theorem named_4 : Named 4 := ⟨_, neq_4, name_4⟩
theorem named_5 : Named 5 := ⟨_, neq_5, name_5⟩
theorem named_6 : Named 6 := ⟨_, neq_6, name_6⟩
set_option maxRecDepth 100000 in
theorem lnew_gen (p t : List Int) (A B : Option Addr) (c d : Nat) (w : World) (hck : chk p t = 0) (hs : Sl w w.heap.size A (p.flatMap decI)) (ht : Sl w w.heap.size B (t.flatMap decI)) (kind : Int) (hnm : Named kind) (ga : Nat) (kg kl par bud : Int) (Q : Nat → World → World → Prop)
    (HM : ∀ gl W, w.heap.size ≤ gl → Below w.heap.size w W → W.heap[gl]? = some (.cells #[.int .i64 kind, .int .i64 (t.length : Int), .nilIface] 115 (0, 0)) → Calls Tryz.prog 58 #[.pointer (some ⟨gl, 0, none⟩), .pointer (some ⟨ga, 0, none⟩), (.agg #[.slice A p.length c, .slice B t.length d]), (.agg #[.int .i64 kg, .int .i64 kl, .int .i64 par, .int .i64 bud])] W fun e w' => e = .returned (.int .i64 0) ∧ Q gl W w') :
    Calls Tryz.prog 38 #[.pointer (some ⟨ga, 0, none⟩), (.agg #[.slice A p.length c, .slice B t.length d]), (.agg #[.int .i64 kind, .int .i64 kg, .int .i64 kl, .int .i64 par, .int .i64 bud])] w fun e w' => ∃ gl W, e = .returned (.tuple #[.pointer (some ⟨gl, 0, none⟩), .int .i64 0]) ∧ w.heap.size ≤ gl ∧ Below w.heap.size w W ∧ W.heap[gl]? = some (.cells #[.int .i64 kind, .int .i64 (t.length : Int), .nilIface] 115 (0, 0)) ∧ Q gl W w' := by
  obtain ⟨nm, hne, HN⟩ := hnm
  obtain ⟨l1, l2, l3, l4⟩ := chk_len hck
  have HS := Lib.hid hs
  have HT := Lib.hid ht
  have HMk := Lib.hid HM
  have HNm := Lib.hid HN
  clear hs ht HM HN
  go_enter Tryz.func38, Tryz.ntmps38
  go_wp2_with fail
  have hb1 := below_new w (.cells #[.slice A p.length c, .slice B t.length d] 24)
  have hx1 := blk_new w (.cells #[.slice A p.length c, .slice B t.length d] 24)
  have hz1 : (w.alloc (.cells #[.slice A p.length c, .slice B t.length d] 24)).heap.size = w.heap.size + 1 := by simp
  generalize w.alloc (.cells #[.slice A p.length c, .slice B t.length d] 24) = W1 at *
  have hb2 := below_new W1 (.cells #[.int .i64 kind, .int .i64 kg, .int .i64 kl, .int .i64 par, .int .i64 bud] 58)
  have hx2 := blk_new W1 (.cells #[.int .i64 kind, .int .i64 kg, .int .i64 kl, .int .i64 par, .int .i64 bud] 58)
  have hz2 : (W1.alloc (.cells #[.int .i64 kind, .int .i64 kg, .int .i64 kl, .int .i64 par, .int .i64 bud] 58)).heap.size = W1.heap.size + 1 := by simp
  generalize W1.alloc (.cells #[.int .i64 kind, .int .i64 kg, .int .i64 kl, .int .i64 par, .int .i64 bud] 58) = W2 at *
  have HB2 := Lib.hid (hb1.trans (hb2.mono hb1.size))
  have HX1 := Lib.hid ((Mod.of_below (S := []) hb2).blk hx1 (by simp))
  rw [hz1] at hx2
  have HX2 := Lib.hid hx2
  clear hb1 hx1 hb2 hx2
  refine (HNm.out W2).mono ?_
  rintro e W3 ⟨rfl, hb3⟩
  have hz3 := hb3.size
  have HB3 := Lib.hid (HB2.out.trans (hb3.mono HB2.out.size))
  have HX1' := Lib.hid ((Mod.of_below (S := []) hb3).blk HX1.out (by simp))
  have HX2' := Lib.hid ((Mod.of_below (S := []) hb3).blk HX2.out (by simp))
  clear hb3 HB2 HX1 HX2
  have b0 := blk_cell HX1'.out 0 (by simp)
  have b1 := blk_cell HX1'.out 1 (by simp)
  have HCK := Lib.hid (check_any p t A B c d W3 (by omega) (by omega) ((Sl.below HS.out HB3.out).more HB3.out.size) ((Sl.below HT.out HB3.out).more HB3.out.size))
  simp only [List.getElem_toArray, List.getElem_cons_zero, List.getElem_cons_succ] at b0 b1
  rw [hck] at HCK
  go_wp2_with fail
  refine HCK.out.mono ?_
  rintro e W4 ⟨rfl, hb4⟩
  have hz4 := hb4.size
  have HB4 := Lib.hid (HB3.out.trans (hb4.mono HB3.out.size))
  have HY1 := (Mod.of_below (S := []) hb4).blk HX1'.out (by simp)
  have HY2 := (Mod.of_below (S := []) hb4).blk HX2'.out (by simp)
  have hb5 := below_new W4 (.cells #[.int .i64 kind, .int .i64 (t.length : Int), .nilIface] 115)
  have hx5 := blk_new W4 (.cells #[.int .i64 kind, .int .i64 (t.length : Int), .nilIface] 115)
  have HX5 := Lib.hid hx5
  have HB5 := Lib.hid (HB4.out.trans (hb5.mono HB4.out.size))
  have HM5 := Lib.hid (HMk.out W4.heap.size _ (by omega) HB5.out hx5)
  clear b0 b1
  have b0 := blk_cell HY1 0 (by simp)
  have b1 := blk_cell HY1 1 (by simp)
  have s0 := blk_cell HY2 0 (by simp)
  have s1 := blk_cell HY2 1 (by simp)
  have s2 := blk_cell HY2 2 (by simp)
  have s3 := blk_cell HY2 3 (by simp)
  have s4 := blk_cell HY2 4 (by simp)
  have HZ1 := (Mod.of_below (S := []) hb5).blk HY1 (by simp)
  have HZ2 := (Mod.of_below (S := []) hb5).blk HY2 (by simp)
  have d0 := blk_cell HZ1 0 (by simp)
  have d1 := blk_cell HZ1 1 (by simp)
  have r1 := blk_cell HZ2 1 (by simp)
  have r2 := blk_cell HZ2 2 (by simp)
  have r3 := blk_cell HZ2 3 (by simp)
  have r4 := blk_cell HZ2 4 (by simp)
  simp only [List.getElem_toArray, List.getElem_cons_zero, List.getElem_cons_succ] at b0 b1 s0 s1 s2 s3 s4 d0 d1 r1 r2 r3 r4
  clear HZ1 HZ2 hb4 HY1 HY2 hb5 hx5 HX1' HX2' HB3 HCK HMk HNm
  go_wp2_with fail
  refine HM5.out.mono ?_
  rintro e W6 ⟨rfl, hq⟩
  have HQ := Lib.hid hq
  clear hq
  go_wp2_with fail
  go_ret2
  exact ⟨_, _, rfl, by omega, HB5.out, HX5.out, HQ.out⟩
end Go.Proofs.YtfmiioddhpkdkaaGreat.Lk

/- Locks of any kind: slots hold in the order of their doorways: the plain law, by that of each kind. -/
namespace Go.Proofs.YtfmiioddhpkdkaaGreat.Fl
open Go.RowKit Go.Proofs.YtfmiioddhpkdkaaGreat.Ara Go.Proofs.YtfmiioddhpkdkaaGreat.Lok

end Go.Proofs.YtfmiioddhpkdkaaGreat.Fl

/- Locks of the kinds that keep order: the queue of those who have passed the doorway. -/
namespace Go.Proofs.YtfmiioddhpkdkaaGreat.Fl
open Go.RowKit Go.Proofs.YtfmiioddhpkdkaaGreat.Ara Go.Proofs.YtfmiioddhpkdkaaGreat.Lok

theorem list_ext_get {α : Type} {l : List α} {a : α} (h : a ∈ l) : ∃ k, ∃ hk : k < l.length, l[k] = a := by
  obtain ⟨k, hk, e⟩ := List.mem_iff_getElem.1 h
  exact ⟨k, hk, e⟩
theorem head_zero {α : Type} {l : List α} (h : 0 < l.length) : l.head? = some l[0] := by
  cases l with
  | nil => simp at h
  | cons a l => rfl
theorem spOf_turnS {sp : List Sp} {i fr tO : Int} (j : Int) : spOf (turnS sp i fr tO) j = if turnB sp i fr = true ∧ j = i then { spOf sp i with pc := tO } else spOf sp j := by
  cases ht : turnB sp i fr with
  | false => rw [turn_no tO ht, if_neg (by simp)]
  | true =>
    rw [spOf_turn tO ht j]
    by_cases e : j = i
    · rw [if_pos e, if_pos ⟨rfl, e⟩]
    · rw [if_neg e, if_neg (fun h => e h.2)]
def Tkq (P : Tk.Par) (σ : Ar) (sp : List Sp) (q : List Int) : Prop := ∃ S T : Nat, Tk.Inv P σ sp S T ∧ q.length + S = T ∧ ∀ k (h : k < q.length), Tk.inq (spOf sp q[k]) ∧ (spOf sp q[k]).a = (S : Int) + k
section
variable {P : Tk.Par} {σ : Ar} {sp : List Sp} {q : List Int} (h : Tkq P σ sp q)
include h
theorem Tkq.mem (i : Int) : i ∈ q ↔ Tk.inq (spOf sp i) := by
  obtain ⟨S, T, hi, hl, hk⟩ := h
  constructor
  · intro hm
    obtain ⟨k, k1, rfl⟩ := list_ext_get hm
    exact (hk k k1).1
  · intro hq
    have ht := hi.tick i hq
    have h1 : ((spOf sp i).a - S).toNat < q.length := by omega
    have h2 := hk _ h1
    have e : q[((spOf sp i).a - S).toNat] = i := hi.inj _ _ h2.1 hq (by rw [h2.2]; omega)
    rw [← e]
    exact List.getElem_mem h1
theorem Tkq.nodup : q.Nodup := by
  obtain ⟨S, T, hi, hl, hk⟩ := h
  rw [List.Nodup, List.pairwise_iff_getElem]
  intro i j h1 h2 hij e
  have a1 := (hk i h1).2
  have a2 := (hk j h2).2
  rw [e, a2] at a1
  omega
theorem Tkq.head {i : Int} (hp : (spOf sp i).pc = 10 ∨ (spOf sp i).pc = 11) : q.head? = some i := by
  have hm := (h.mem i).2 (.inr hp)
  obtain ⟨S, T, hi, hl, hk⟩ := h
  obtain ⟨k, k1, e⟩ := list_ext_get hm
  have a1 := (hk k k1).2
  rw [e, hi.hold i hp] at a1
  obtain rfl : k = 0 := by omega
  rw [head_zero k1, e]
theorem Tkq.serves {i : Int} (hh : q.head? = some i) : σ.get (Tk.place P (spOf sp i).a) = (spOf sp i).a := by
  obtain ⟨S, T, hi, hl, hk⟩ := h
  have h0 : 0 < q.length := by cases q with | nil => simp at hh | cons a l => simp
  rw [head_zero h0] at hh
  injection hh with hh
  have := (hk 0 h0).2
  rw [hh] at this
  have e : (spOf sp i).a = (S : Int) := by rw [this]; exact Int.add_zero _
  rw [e]
  exact hi.srv
theorem Tkq.first {i : Int} (hq : Tk.inq (spOf sp i)) (hs : σ.get (Tk.place P (spOf sp i).a) = (spOf sp i).a) : q.head? = some i := by
  have hm := (h.mem i).2 hq
  obtain ⟨S, T, hi, hl, hk⟩ := h
  have ha := hi.served i hq hs
  obtain ⟨k, k1, e⟩ := list_ext_get hm
  have a1 := (hk k k1).2
  rw [e, ha] at a1
  obtain rfl : k = 0 := by omega
  rw [head_zero k1, e]
theorem Tkq.step (i : Int) : ((spOf sp i).pc = 1 ∧ Tkq P (Tk.stepP P σ sp i).2.1 (Tk.stepP P σ sp i).2.2 (q ++ [i])) ∨ ((spOf sp i).pc = 11 ∧ (Tk.stepP P σ sp i).1 = true ∧ ∃ t, q = i :: t ∧ Tkq P (Tk.stepP P σ sp i).2.1 (Tk.stepP P σ sp i).2.2 t) ∨ ((spOf sp i).pc ≠ 1 ∧ (spOf sp i).pc ≠ 11 ∧ Tkq P (Tk.stepP P σ sp i).2.1 (Tk.stepP P σ sp i).2.2 q) := by
  have hm := h.mem
  have hhd := @Tkq.head P σ sp q h
  have hfs := @Tkq.first P σ sp q h
  obtain ⟨S, T, hi, hl, hk⟩ := h
  by_cases h1 : (spOf sp i).pc = 1
  · left
    refine ⟨h1, ?_⟩
    obtain ⟨i0, i1⟩ := spOf_range (sp := sp) (i := i) (by omega)
    have hni : ¬ Tk.inq (spOf sp i) := by unfold Tk.inq; omega
    have hs := spOf_set i0 i1 { spOf sp i with pc := 2, a := σ.get P.next }
    have hv := hi.takes i _ hs hni rfl hi.gT
    rw [← hi.gT] at hv
    rw [Tk.step_1 h1]
    refine ⟨S, T + 1, hv, by simp; omega, fun k hkl => ?_⟩
    by_cases e : k < q.length
    · rw [List.getElem_append_left e]
      have hne : q[k] ≠ i := fun e2 => hni (e2 ▸ (hk k e).1)
      show Tk.inq (spOf (sp.set i.toNat _) q[k]) ∧ (spOf (sp.set i.toNat _) q[k]).a = _
      rw [hs, if_neg hne]
      exact hk k e
    · have ek : k = q.length := by simp at hkl; omega
      subst ek
      rw [List.getElem_append_right (Nat.le_refl _)]
      simp only [Nat.sub_self, List.getElem_cons_zero]
      show Tk.inq (spOf (sp.set i.toNat _) i) ∧ (spOf (sp.set i.toNat _) i).a = _
      rw [hs, if_pos rfl]
      refine ⟨.inl rfl, ?_⟩
      show σ.get P.next = _
      rw [hi.gT]
      omega
  right
  by_cases h3 : (spOf sp i).pc = 11
  · left
    have hh := hhd (.inr h3)
    have e := hi.hold i (.inr h3)
    obtain ⟨i0, i1⟩ := spOf_range (sp := sp) (i := i) (by omega)
    have hs := spOf_set i0 i1 { spOf sp i with pc := 0 }
    have hv := hi.passes i _ hs (.inr h3) rfl rfl
    rw [← e] at hv
    rw [Tk.step_11 h3]
    refine ⟨h3, rfl, ?_⟩
    cases q with
    | nil => simp at hh
    | cons a t =>
      obtain rfl : a = i := by simpa using hh
      refine ⟨t, rfl, S + 1, T, hv, by simp at hl; omega, fun k hkl => ?_⟩
      have h5 := hk (k + 1) (by simpa using hkl)
      simp only [List.getElem_cons_succ] at h5
      have hne : t[k] ≠ a := by
        intro e2
        have := h5.2
        rw [e2, e] at this
        omega
      show Tk.inq (spOf (sp.set a.toNat _) t[k]) ∧ (spOf (sp.set a.toNat _) t[k]).a = _
      rw [hs, if_neg hne]
      exact ⟨h5.1, by rw [h5.2]; omega⟩
  right
  refine ⟨h1, h3, ?_⟩
  by_cases h2 : (spOf sp i).pc = 2
  · rw [Tk.step_2 h2]
    obtain ⟨i0, i1⟩ := spOf_range (sp := sp) (i := i) (by omega)
    by_cases hc : σ.get (Tk.place P (spOf sp i).a) = (spOf sp i).a
    · have hs := spOf_set i0 i1 { spOf sp i with pc := 10 }
      rw [if_pos hc]
      refine ⟨S, T, (hi.keeps i _ hs (.inl h2) (.inl rfl) rfl (hi.served i (.inl h2) hc)).read _ _, hl, fun k hkl => ?_⟩
      have h5 := hk k hkl
      show Tk.inq (spOf (sp.set i.toNat _) q[k]) ∧ (spOf (sp.set i.toNat _) q[k]).a = _
      rw [hs]
      by_cases e : q[k] = i
      · rw [if_pos e]
        rw [e] at h5
        exact ⟨.inr (.inl rfl), h5.2⟩
      · rw [if_neg e]; exact h5
    · rw [if_neg hc]
      exact ⟨S, T, hi.read _ _, hl, hk⟩
  · rw [Tk.step_no h1 h2 h3]
    exact ⟨S, T, hi, hl, hk⟩
theorem Tkq.ask (i : Int) : Tkq P σ (turnS sp i 0 1) q := by
  have hm := h.mem
  obtain ⟨S, T, hi, hl, hk⟩ := h
  cases ht : turnB sp i 0 with
  | false => rw [turn_no 1 ht]; exact ⟨S, T, hi, hl, hk⟩
  | true =>
    have hp := (turn_true ht).2
    have hni : ¬ Tk.inq (spOf sp i) := by unfold Tk.inq; omega
    refine ⟨S, T, hi.idle i _ (spOf_turn 1 ht) hni (.inr rfl) rfl, hl, fun k hkl => ?_⟩
    have hne : q[k] ≠ i := fun e2 => hni (e2 ▸ (hk k hkl).1)
    rw [spOf_turn 1 ht, if_neg hne]
    exact hk k hkl
theorem Tkq.leave (i : Int) : Tkq P σ (turnS sp i 10 11) q := by
  obtain ⟨S, T, hi, hl, hk⟩ := h
  cases ht : turnB sp i 10 with
  | false => rw [turn_no 11 ht]; exact ⟨S, T, hi, hl, hk⟩
  | true =>
    have hp := (turn_true ht).2
    refine ⟨S, T, hi.keeps i _ (spOf_turn 11 ht) (.inr (.inl hp)) (.inr rfl) rfl (hi.hold i (.inl hp)), hl, fun k hkl => ?_⟩
    have h5 := hk k hkl
    rw [spOf_turn 11 ht]
    by_cases e : q[k] = i
    · rw [if_pos e]
      rw [e] at h5
      exact ⟨.inr (.inr rfl), h5.2⟩
    · rw [if_neg e]; exact h5
theorem Tkq.alone (i : Int) : Tkq P (Tk.aloneP P σ sp i).2 sp q := by
  obtain ⟨S, T, hi, hl, hk⟩ := h
  unfold Tk.aloneP
  split
  · exact ⟨S, T, hi.read _ _, hl, hk⟩
  · exact ⟨S, T, hi, hl, hk⟩
end
def Ptq (P : Pt.Par) (σ : Ar) (sp : List Sp) (q : List Int) : Prop := ∃ S T : Nat, Pt.Inv P σ sp S T ∧ q.length + S = T ∧ ∀ k (h : k < q.length), Pt.inq (spOf sp q[k]) ∧ (spOf sp q[k]).a = (S : Int) + k
section
variable {P : Pt.Par} {σ : Ar} {sp : List Sp} {q : List Int} (h : Ptq P σ sp q)
include h
theorem Ptq.mem (i : Int) : i ∈ q ↔ Pt.inq (spOf sp i) := by
  obtain ⟨S, T, hi, hl, hk⟩ := h
  constructor
  · intro hm
    obtain ⟨k, k1, rfl⟩ := list_ext_get hm
    exact (hk k k1).1
  · intro hq
    have ht := hi.tick i hq
    have h1 : ((spOf sp i).a - S).toNat < q.length := by omega
    have h2 := hk _ h1
    have e : q[((spOf sp i).a - S).toNat] = i := hi.inj _ _ h2.1 hq (by rw [h2.2]; omega)
    rw [← e]
    exact List.getElem_mem h1
theorem Ptq.nodup : q.Nodup := by
  obtain ⟨S, T, hi, hl, hk⟩ := h
  rw [List.Nodup, List.pairwise_iff_getElem]
  intro i j h1 h2 hij e
  have a1 := (hk i h1).2
  have a2 := (hk j h2).2
  rw [e, a2] at a1
  omega
theorem Ptq.head {i : Int} (hp : (spOf sp i).pc = 10 ∨ (spOf sp i).pc = 11) : q.head? = some i := by
  have hm := (h.mem i).2 (.inr hp)
  obtain ⟨S, T, hi, hl, hk⟩ := h
  obtain ⟨k, k1, e⟩ := list_ext_get hm
  have a1 := (hk k k1).2
  rw [e, hi.hold i hp] at a1
  obtain rfl : k = 0 := by omega
  rw [head_zero k1, e]
theorem Ptq.serves {i : Int} (hh : q.head? = some i) : σ.get (Pt.place P (spOf sp i).a) = (spOf sp i).a + 1 := by
  obtain ⟨S, T, hi, hl, hk⟩ := h
  have h0 : 0 < q.length := by cases q with | nil => simp at hh | cons a l => simp
  rw [head_zero h0] at hh
  injection hh with hh
  have := (hk 0 h0).2
  rw [hh] at this
  have e : (spOf sp i).a = (S : Int) := by rw [this]; exact Int.add_zero _
  rw [e]
  exact hi.srv
theorem Ptq.first {i : Int} (hq : Pt.inq (spOf sp i)) (hs : σ.get (Pt.place P (spOf sp i).a) = (spOf sp i).a + 1) : q.head? = some i := by
  have hm := (h.mem i).2 hq
  obtain ⟨S, T, hi, hl, hk⟩ := h
  have ha := hi.served i hq hs
  obtain ⟨k, k1, e⟩ := list_ext_get hm
  have a1 := (hk k k1).2
  rw [e, ha] at a1
  obtain rfl : k = 0 := by omega
  rw [head_zero k1, e]
theorem Ptq.step (i : Int) : ((spOf sp i).pc = 1 ∧ Ptq P (Pt.stepP P σ sp i).2.1 (Pt.stepP P σ sp i).2.2 (q ++ [i])) ∨ ((spOf sp i).pc = 11 ∧ (Pt.stepP P σ sp i).1 = true ∧ ∃ t, q = i :: t ∧ Ptq P (Pt.stepP P σ sp i).2.1 (Pt.stepP P σ sp i).2.2 t) ∨ ((spOf sp i).pc ≠ 1 ∧ (spOf sp i).pc ≠ 11 ∧ Ptq P (Pt.stepP P σ sp i).2.1 (Pt.stepP P σ sp i).2.2 q) := by
  have hm := h.mem
  have hhd := @Ptq.head P σ sp q h
  have hfs := @Ptq.first P σ sp q h
  obtain ⟨S, T, hi, hl, hk⟩ := h
  by_cases h1 : (spOf sp i).pc = 1
  · left
    refine ⟨h1, ?_⟩
    obtain ⟨i0, i1⟩ := spOf_range (sp := sp) (i := i) (by omega)
    have hni : ¬ Pt.inq (spOf sp i) := by unfold Pt.inq; omega
    have hs := spOf_set i0 i1 { spOf sp i with pc := 2, a := σ.get P.next }
    have hv := hi.takes i _ hs hni rfl hi.gT
    rw [← hi.gT] at hv
    rw [Pt.step_1 h1]
    refine ⟨S, T + 1, hv, by simp; omega, fun k hkl => ?_⟩
    by_cases e : k < q.length
    · rw [List.getElem_append_left e]
      have hne : q[k] ≠ i := fun e2 => hni (e2 ▸ (hk k e).1)
      show Pt.inq (spOf (sp.set i.toNat _) q[k]) ∧ (spOf (sp.set i.toNat _) q[k]).a = _
      rw [hs, if_neg hne]
      exact hk k e
    · have ek : k = q.length := by simp at hkl; omega
      subst ek
      rw [List.getElem_append_right (Nat.le_refl _)]
      simp only [Nat.sub_self, List.getElem_cons_zero]
      show Pt.inq (spOf (sp.set i.toNat _) i) ∧ (spOf (sp.set i.toNat _) i).a = _
      rw [hs, if_pos rfl]
      refine ⟨.inl rfl, ?_⟩
      show σ.get P.next = _
      rw [hi.gT]
      omega
  right
  by_cases h3 : (spOf sp i).pc = 11
  · left
    have hh := hhd (.inr h3)
    have e := hi.hold i (.inr h3)
    obtain ⟨i0, i1⟩ := spOf_range (sp := sp) (i := i) (by omega)
    have hs := spOf_set i0 i1 { spOf sp i with pc := 0 }
    have hv := hi.passes i _ hs (.inr h3) rfl rfl
    rw [← e] at hv
    rw [Pt.step_11 h3]
    refine ⟨h3, rfl, ?_⟩
    cases q with
    | nil => simp at hh
    | cons a t =>
      obtain rfl : a = i := by simpa using hh
      refine ⟨t, rfl, S + 1, T, hv, by simp at hl; omega, fun k hkl => ?_⟩
      have h5 := hk (k + 1) (by simpa using hkl)
      simp only [List.getElem_cons_succ] at h5
      have hne : t[k] ≠ a := by
        intro e2
        have := h5.2
        rw [e2, e] at this
        omega
      show Pt.inq (spOf (sp.set a.toNat _) t[k]) ∧ (spOf (sp.set a.toNat _) t[k]).a = _
      rw [hs, if_neg hne]
      exact ⟨h5.1, by rw [h5.2]; omega⟩
  right
  refine ⟨h1, h3, ?_⟩
  by_cases h2 : (spOf sp i).pc = 2
  · rw [Pt.step_2 h2]
    obtain ⟨i0, i1⟩ := spOf_range (sp := sp) (i := i) (by omega)
    by_cases hc : σ.get (Pt.place P (spOf sp i).a) = (spOf sp i).a + 1
    · have hs := spOf_set i0 i1 { spOf sp i with pc := 10 }
      rw [if_pos hc]
      refine ⟨S, T, (hi.keeps i _ hs (.inl h2) (.inl rfl) rfl (hi.served i (.inl h2) hc)).read _ _, hl, fun k hkl => ?_⟩
      have h5 := hk k hkl
      show Pt.inq (spOf (sp.set i.toNat _) q[k]) ∧ (spOf (sp.set i.toNat _) q[k]).a = _
      rw [hs]
      by_cases e : q[k] = i
      · rw [if_pos e]
        rw [e] at h5
        exact ⟨.inr (.inl rfl), h5.2⟩
      · rw [if_neg e]; exact h5
    · rw [if_neg hc]
      exact ⟨S, T, hi.read _ _, hl, hk⟩
  · rw [Pt.step_no h1 h2 h3]
    exact ⟨S, T, hi, hl, hk⟩
theorem Ptq.ask (i : Int) : Ptq P σ (turnS sp i 0 1) q := by
  have hm := h.mem
  obtain ⟨S, T, hi, hl, hk⟩ := h
  cases ht : turnB sp i 0 with
  | false => rw [turn_no 1 ht]; exact ⟨S, T, hi, hl, hk⟩
  | true =>
    have hp := (turn_true ht).2
    have hni : ¬ Pt.inq (spOf sp i) := by unfold Pt.inq; omega
    refine ⟨S, T, hi.idle i _ (spOf_turn 1 ht) hni (.inr rfl) rfl, hl, fun k hkl => ?_⟩
    have hne : q[k] ≠ i := fun e2 => hni (e2 ▸ (hk k hkl).1)
    rw [spOf_turn 1 ht, if_neg hne]
    exact hk k hkl
theorem Ptq.leave (i : Int) : Ptq P σ (turnS sp i 10 11) q := by
  obtain ⟨S, T, hi, hl, hk⟩ := h
  cases ht : turnB sp i 10 with
  | false => rw [turn_no 11 ht]; exact ⟨S, T, hi, hl, hk⟩
  | true =>
    have hp := (turn_true ht).2
    refine ⟨S, T, hi.keeps i _ (spOf_turn 11 ht) (.inr (.inl hp)) (.inr rfl) rfl (hi.hold i (.inl hp)), hl, fun k hkl => ?_⟩
    have h5 := hk k hkl
    rw [spOf_turn 11 ht]
    by_cases e : q[k] = i
    · rw [if_pos e]
      rw [e] at h5
      exact ⟨.inr (.inr rfl), h5.2⟩
    · rw [if_neg e]; exact h5
theorem Ptq.alone (i : Int) : Ptq P (Pt.aloneP P σ sp i).2 sp q := by
  obtain ⟨S, T, hi, hl, hk⟩ := h
  unfold Pt.aloneP
  split
  · exact ⟨S, T, hi.read _ _, hl, hk⟩
  · exact ⟨S, T, hi, hl, hk⟩
end
end Go.Proofs.YtfmiioddhpkdkaaGreat.Fl

/- The queue of a lock that keeps order: how each step turns it, and how much is left tO do. -/
namespace Go.Proofs.YtfmiioddhpkdkaaGreat.Fl
open Go.RowKit Go.Proofs.YtfmiioddhpkdkaaGreat.Ara Go.Proofs.YtfmiioddhpkdkaaGreat.Lok

def dr : PK → Int
  | .tas _ => 0
  | .tic _ => 1
  | .par _ => 1
  | .mcs _ => 3
  | .clh _ => 2
def QuK : PK → Ar → List Sp → List Int → Prop
  | .tas _, _, _, _ => False
  | .tic P, σ, sp, q => Tkq P σ sp q
  | .par P, σ, sp, q => Ptq P σ sp q
  | .mcs P, σ, sp, q => Mc.Inv P σ sp q
  | .clh P, σ, sp, q => ∃ z, Cl.Inv P σ sp z q
theorem Tkq.pcs {P : Tk.Par} {σ : Ar} {sp : List Sp} {q : List Int} (h : Tkq P σ sp q) (i : Int) : (spOf sp i).pc = 0 ∨ (spOf sp i).pc = 1 ∨ (spOf sp i).pc = 2 ∨ (spOf sp i).pc = 10 ∨ (spOf sp i).pc = 11 := by
  obtain ⟨S, T, hi, _⟩ := h
  have := hi.pcs i
  unfold Tk.inq at this
  omega
theorem Ptq.pcs {P : Pt.Par} {σ : Ar} {sp : List Sp} {q : List Int} (h : Ptq P σ sp q) (i : Int) : (spOf sp i).pc = 0 ∨ (spOf sp i).pc = 1 ∨ (spOf sp i).pc = 2 ∨ (spOf sp i).pc = 10 ∨ (spOf sp i).pc = 11 := by
  obtain ⟨S, T, hi, _⟩ := h
  have := hi.pcs i
  unfold Pt.inq at this
  omega
theorem clpcs {P : Cl.Par} {σ : Ar} {sp : List Sp} {z : Int} {q : List Int} (h : Cl.Inv P σ sp z q) (i : Int) : (spOf sp i).pc = 0 ∨ (spOf sp i).pc = 1 ∨ (spOf sp i).pc = 2 ∨ (spOf sp i).pc = 3 ∨ (spOf sp i).pc = 10 ∨ (spOf sp i).pc = 11 := by
  have := h.pcs i
  unfold Cl.inq Cl.inn at this
  omega
theorem mcpcs {P : Mc.Par} {σ : Ar} {sp : List Sp} {q : List Int} (h : Mc.Inv P σ sp q) (i : Int) : (spOf sp i).pc = 0 ∨ (spOf sp i).pc = 1 ∨ (spOf sp i).pc = 2 ∨ (spOf sp i).pc = 3 ∨ (spOf sp i).pc = 4 ∨ (spOf sp i).pc = 5 ∨ (spOf sp i).pc = 10 ∨ (spOf sp i).pc = 11 ∨ (spOf sp i).pc = 12 ∨ (spOf sp i).pc = 13 ∨ (spOf sp i).pc = 14 := by
  have := h.pcs i
  unfold Mc.inq Mc.outs at this
  omega
section
variable {p : PK} {σ : Ar} {sp : List Sp} {q : List Int} (h : QuK p σ sp q)
include h
theorem QuK.mem (i : Int) : i ∈ q ↔ dr p < (spOf sp i).pc := by
  cases p with
  | tas P => exact absurd h id
  | tic P => have h : Tkq P σ sp q := h; rw [h.mem i]; have := h.pcs i; unfold Tk.inq; show _ ↔ (1 : Int) < _; omega
  | par P => have h : Ptq P σ sp q := h; rw [h.mem i]; have := h.pcs i; unfold Pt.inq; show _ ↔ (1 : Int) < _; omega
  | mcs P => have h : Mc.Inv P σ sp q := h; rw [h.mem i]; have := mcpcs h i; unfold Mc.inq Mc.outs; show _ ↔ (3 : Int) < _; omega
  | clh P => obtain ⟨z, h⟩ := h; rw [h.mem i]; have := clpcs h i; unfold Cl.inq Cl.inn; show _ ↔ (2 : Int) < _; omega
theorem QuK.nodup : q.Nodup := by
  cases p with
  | tas P => exact absurd h id
  | tic P => exact Tkq.nodup h
  | par P => exact Ptq.nodup h
  | mcs P => exact Mc.Inv.nd h
  | clh P => obtain ⟨z, h⟩ := h; exact h.nd
theorem QuK.head {i : Int} (hp : 10 ≤ (spOf sp i).pc) : q.head? = some i := by
  cases p with
  | tas P => exact absurd h id
  | tic P => have h : Tkq P σ sp q := h; exact h.head (by have := h.pcs i; omega)
  | par P => have h : Ptq P σ sp q := h; exact h.head (by have := h.pcs i; omega)
  | mcs P => have h : Mc.Inv P σ sp q := h; exact h.first i (by have := mcpcs h i; unfold Mc.outs; omega)
  | clh P => obtain ⟨z, h⟩ := h; exact h.first i (by have := clpcs h i; unfold Cl.inn; omega)
theorem QuK.ask (i : Int) : QuK p (doK p σ sp 1 i).2.1 (doK p σ sp 1 i).2.2 q := by
  cases p with
  | tas P => exact absurd h id
  | tic P => exact Tkq.ask h i
  | par P => exact Ptq.ask h i
  | mcs P => exact Mc.inv_ask h
  | clh P => obtain ⟨z, h⟩ := h; exact ⟨z, Cl.inv_ask h i⟩
theorem QuK.leave (i : Int) : QuK p (doK p σ sp 2 i).2.1 (doK p σ sp 2 i).2.2 q := by
  cases p with
  | tas P => exact absurd h id
  | tic P => exact Tkq.leave h i
  | par P => exact Ptq.leave h i
  | mcs P => exact Mc.inv_leave h
  | clh P => obtain ⟨z, h⟩ := h; exact ⟨z, Cl.inv_leave h i⟩
theorem QuK.alone (i : Int) : QuK p (doK p σ sp 3 i).2.1 (doK p σ sp 3 i).2.2 q := by
  cases p with
  | tas P => exact absurd h id
  | tic P => exact Tkq.alone h i
  | par P => exact Ptq.alone h i
  | mcs P => exact Mc.inv_alone h
  | clh P => obtain ⟨z, h⟩ := h; exact ⟨z, Cl.inv_alone h i⟩
end
def QTurn (p : PK) (sp : List Sp) (q : List Int) (i : Int) (r : Bool × Ar × List Sp) : Prop :=
  ((0 < (spOf sp i).pc ∧ (spOf sp i).pc = dr p) ∧ QuK p r.2.1 r.2.2 (q ++ [i])) ∨ (10 < (spOf sp i).pc ∧ r.1 = true ∧ ∃ t, q = i :: t ∧ QuK p r.2.1 r.2.2 t) ∨ ((spOf sp i).pc ≠ dr p ∧ ¬ (10 < (spOf sp i).pc ∧ r.1 = true) ∧ QuK p r.2.1 r.2.2 q)
theorem QuK.step {p : PK} {σ : Ar} {sp : List Sp} {q : List Int} (h : QuK p σ sp q) (i : Int) : QTurn p sp q i (doK p σ sp 0 i) := by
  unfold QTurn
  cases p with
  | tas P => exact absurd h id
  | tic P =>
    have h : Tkq P σ sp q := h
    rcases h.step i with ⟨a, b⟩ | ⟨a, b, c⟩ | ⟨a, b, c⟩
    · exact .inl ⟨⟨by omega, a⟩, b⟩
    · exact .inr (.inl ⟨by omega, b, c⟩)
    · exact .inr (.inr ⟨a, fun e => by have := h.pcs i; omega, c⟩)
  | par P =>
    have h : Ptq P σ sp q := h
    rcases h.step i with ⟨a, b⟩ | ⟨a, b, c⟩ | ⟨a, b, c⟩
    · exact .inl ⟨⟨by omega, a⟩, b⟩
    · exact .inr (.inl ⟨by omega, b, c⟩)
    · exact .inr (.inr ⟨a, fun e => by have := h.pcs i; omega, c⟩)
  | mcs P =>
    have h : Mc.Inv P σ sp q := h
    show ((0 < (spOf sp i).pc ∧ (spOf sp i).pc = 3) ∧ Mc.Inv P (Mc.stepP P σ sp i).2.1 (Mc.stepP P σ sp i).2.2 (q ++ [i])) ∨ (10 < (spOf sp i).pc ∧ (Mc.stepP P σ sp i).1 = true ∧ ∃ t, q = i :: t ∧ Mc.Inv P (Mc.stepP P σ sp i).2.1 (Mc.stepP P σ sp i).2.2 t) ∨ ((spOf sp i).pc ≠ 3 ∧ ¬ (10 < (spOf sp i).pc ∧ (Mc.stepP P σ sp i).1 = true) ∧ Mc.Inv P (Mc.stepP P σ sp i).2.1 (Mc.stepP P σ sp i).2.2 q)
    rcases mcpcs h i with e | e | e | e | e | e | e | e | e | e | e
    · rw [Mc.step_no (.inl e)]; exact .inr (.inr ⟨by omega, by omega, h⟩)
    · rw [Mc.step_1 e]; exact .inr (.inr ⟨by omega, by omega, Mc.inv_1 h e⟩)
    · rw [Mc.step_2 e]; exact .inr (.inr ⟨by omega, by omega, Mc.inv_2 h e⟩)
    · rw [Mc.step_3 e]; exact .inl ⟨⟨by omega, e⟩, Mc.inv_3 h e⟩
    · rw [Mc.step_4 e]; exact .inr (.inr ⟨by omega, by omega, (Mc.inv_4 h e).1⟩)
    · rw [Mc.step_5 e]
      by_cases hg : σ.get (Mc.wt P (i + 1)) = 0
      · simp only [if_pos hg]; exact .inr (.inr ⟨by omega, by omega, (Mc.inv_5 h e hg).1⟩)
      · obtain ⟨i0, i1⟩ := spOf_range (sp := sp) (i := i) (by omega)
        simp only [if_neg hg]
        rw [Mc.set_same i0 i1 (by rw [← e])]
        exact .inr (.inr ⟨by omega, by omega, h.read _ _⟩)
    · rw [Mc.step_no (.inr e)]; exact .inr (.inr ⟨by omega, by omega, h⟩)
    · rw [Mc.step_look (.inl e)]; exact .inr (.inr ⟨by omega, by simp, Mc.inv_look h (.inl e)⟩)
    · rw [Mc.step_12 e, h.casB]
      by_cases hc : Mc.tailOf q = i + 1
      · rw [decide_eq_true hc]
        simp only [if_true]
        obtain ⟨h1, h2⟩ := Mc.inv_12 h e hc
        exact .inr (.inl ⟨by omega, by trivial, [], h2, h1⟩)
      · rw [decide_eq_false hc]
        simp only [Bool.false_eq_true, if_false]
        exact .inr (.inr ⟨by omega, by simp, Mc.inv_12b h e hc⟩)
    · rw [Mc.step_look (.inr e)]; exact .inr (.inr ⟨by omega, by simp, Mc.inv_look h (.inr e)⟩)
    · rw [Mc.step_14 e]
      obtain ⟨j, t, h1, _, hI⟩ := Mc.inv_14 h e
      exact .inr (.inl ⟨by omega, rfl, j :: t, h1, hI⟩)
  | clh P =>
    obtain ⟨z, h⟩ := h
    show ((0 < (spOf sp i).pc ∧ (spOf sp i).pc = 2) ∧ ∃ z, Cl.Inv P (Cl.stepP P σ sp i).2.1 (Cl.stepP P σ sp i).2.2 z (q ++ [i])) ∨ (10 < (spOf sp i).pc ∧ (Cl.stepP P σ sp i).1 = true ∧ ∃ t, q = i :: t ∧ ∃ z, Cl.Inv P (Cl.stepP P σ sp i).2.1 (Cl.stepP P σ sp i).2.2 z t) ∨ ((spOf sp i).pc ≠ 2 ∧ ¬ (10 < (spOf sp i).pc ∧ (Cl.stepP P σ sp i).1 = true) ∧ ∃ z, Cl.Inv P (Cl.stepP P σ sp i).2.1 (Cl.stepP P σ sp i).2.2 z q)
    rcases clpcs h i with e | e | e | e | e | e
    · rw [Cl.step_no (.inl e)]; exact .inr (.inr ⟨by omega, by omega, z, h⟩)
    · rw [Cl.step_1 e]; exact .inr (.inr ⟨by omega, by omega, z, Cl.inv_1 h e⟩)
    · rw [Cl.step_2 e]; exact .inl ⟨⟨by omega, e⟩, z, Cl.inv_2 h e⟩
    · rw [Cl.step_3 e]
      by_cases hg : σ.get (Cl.box P (spOf sp i).b) = 0
      · simp only [if_pos hg]; exact .inr (.inr ⟨by omega, by omega, z, Cl.inv_3 h e hg⟩)
      · simp only [if_neg hg]; exact .inr (.inr ⟨by omega, by omega, z, h.read _ _⟩)
    · rw [Cl.step_no (.inr e)]; exact .inr (.inr ⟨by omega, by omega, z, h⟩)
    · rw [Cl.step_11 e]
      have hh := h.first i (.inr e)
      refine .inr (.inl ⟨by omega, rfl, q.tail, ?_, _, Cl.inv_11 h e⟩)
      cases q with
      | nil => simp at hh
      | cons a t => simp at hh; rw [hh]; rfl
end Go.Proofs.YtfmiioddhpkdkaaGreat.Fl

/- Locks that share an arena: a lock stands as it did, if its own words do; and turns no word but its own: the plain law. -/
namespace Go.Proofs.YtfmiioddhpkdkaaGreat.Fl
open Go.RowKit Go.Proofs.YtfmiioddhpkdkaaGreat.Ara Go.Proofs.YtfmiioddhpkdkaaGreat.Lok

def inR (p : PK) (N : Nat) (q : Int) : Prop :=
  match p with
  | .tas P => q = P.word
  | .tic P => P.next ≤ q ∧ q ≤ P.next + 1
  | .par P => P.next ≤ q ∧ q ≤ P.next + P.parts
  | .mcs P => P.tail ≤ q ∧ q ≤ P.tail + 2 * N
  | .clh P => P.tail ≤ q ∧ q ≤ P.tail + N + 1
structure Al (p : PK) (N : Nat) (σ σ' : Ar) : Prop where
  get : ∀ q, inR p N q → σ'.get q = σ.get q
  t : σ.t ≤ σ'.t
  l : σ'.t ≤ σ'.ws.length
theorem Al.has {p : PK} {N : Nat} {σ σ' : Ar} (h : Al p N σ σ') {q : Int} (hq : σ.has q = true) : σ'.has q = true := by
  have := h.t
  unfold Ar.has at hq ⊢
  simp only [Bool.and_eq_true, decide_eq_true_eq] at hq ⊢
  omega
theorem Al.refl {p : PK} {N : Nat} {σ : Ar} (h : σ.t ≤ σ.ws.length) : Al p N σ σ := ⟨fun _ _ => rfl, Nat.le_refl _, h⟩
theorem Al.trans {p : PK} {N : Nat} {σ σ' σ'' : Ar} (h : Al p N σ σ') (h' : Al p N σ' σ'') : Al p N σ σ'' := ⟨fun q hq => (h'.get q hq).trans (h.get q hq), Nat.le_trans h.t h'.t, h'.l⟩
theorem al_ta {P : Ta.Par} {σ σ' : Ar} {sp : List Sp} {N : Nat} (h : Ta.Inv P σ sp) (a : Al (.tas P) N σ σ') : Ta.Inv P σ' sp :=
  { h with hl := a.l, hw := a.has h.hw, hold := fun i hi => (a.get _ rfl).trans (h.hold i hi), free := fun hf => (a.get _ rfl).trans (h.free hf) }
theorem al_tk {P : Tk.Par} {σ σ' : Ar} {sp : List Sp} {S T N : Nat} (h : Tk.Inv P σ sp S T) (a : Al (.tic P) N σ σ') : Tk.Inv P σ' sp S T := by
  have ht := a.t
  have h1 : P.parts = 1 := rfl
  have hpl : ∀ t, σ'.get (Tk.place P t) = σ.get (Tk.place P t) := fun t => a.get _ (by
    obtain ⟨x, x0, x1, e⟩ := Tk.place_in h.p1 t
    show P.next ≤ Tk.place P t ∧ Tk.place P t ≤ P.next + 1
    rw [e]; omega)
  exact { h with hl := a.l, n2 := by have := h.n2; omega, gT := (a.get P.next ⟨Int.le_refl _, by omega⟩).trans h.gT, srv := (hpl _).trans h.srv, low := fun x x0 x1 => (a.get (P.next + 1 + x) ⟨by omega, by omega⟩) ▸ h.low x x0 x1 }
theorem al_pt {P : Pt.Par} {σ σ' : Ar} {sp : List Sp} {S T N : Nat} (h : Pt.Inv P σ sp S T) (a : Al (.par P) N σ σ') : Pt.Inv P σ' sp S T := by
  have ht := a.t
  have h1 := h.p1
  have hpl : ∀ t, σ'.get (Pt.place P t) = σ.get (Pt.place P t) := fun t => a.get _ (by
    obtain ⟨x, x0, x1, e⟩ := Pt.place_in h.p1 t
    show P.next ≤ Pt.place P t ∧ Pt.place P t ≤ P.next + P.parts
    rw [e]; omega)
  exact { h with hl := a.l, n2 := by have := h.n2; omega, gT := (a.get P.next ⟨Int.le_refl _, by omega⟩).trans h.gT, srv := (hpl _).trans h.srv, low := fun x x0 x1 => (a.get (P.next + 1 + x) ⟨by omega, by omega⟩) ▸ h.low x x0 x1 }
theorem al_mc {P : Mc.Par} {σ σ' : Ar} {sp : List Sp} {q : List Int} (h : Mc.Inv P σ sp q) (a : Al (.mcs P) sp.length σ σ') : Mc.Inv P σ' sp q := by
  have ht := a.t
  have hn : ∀ i : Int, 0 ≤ i → i < sp.length → σ'.get (Mc.nx P (i + 1)) = σ.get (Mc.nx P (i + 1)) := fun i i0 i1 => a.get _ (by show P.tail ≤ Mc.nx P (i + 1) ∧ Mc.nx P (i + 1) ≤ P.tail + 2 * sp.length; unfold Mc.nx; omega)
  have hw : ∀ i : Int, 0 ≤ i → i < sp.length → σ'.get (Mc.wt P (i + 1)) = σ.get (Mc.wt P (i + 1)) := fun i i0 i1 => a.get _ (by show P.tail ≤ Mc.wt P (i + 1) ∧ Mc.wt P (i + 1) ≤ P.tail + 2 * sp.length; unfold Mc.wt; omega)
  have hr : ∀ i, (spOf sp i).pc ≠ 0 → 0 ≤ i ∧ i < sp.length := fun i hi => spOf_range hi
  have hq : ∀ j, j ∈ q → 0 ≤ j ∧ j < sp.length := fun j hj => Mc.inq_range ((h.mem j).1 hj)
  refine { h with hl := a.l, t2 := by have := h.t2; omega, gT := (a.get P.tail ⟨Int.le_refl _, by omega⟩).trans h.gT, ch := h.ch.same (fun _ _ => rfl) (fun j hj => hn j (hq j hj).1 (hq j hj).2) (fun j hj => hw j (hq j (List.mem_of_mem_tail hj)).1 (hq j (List.mem_of_mem_tail hj)).2), hd := fun i hi => ⟨(h.hd i hi).1, fun e => ?_⟩, p2 := fun i hi => ?_, p3 := fun i hi => ?_, p14 := fun i hi => ?_ }
  · obtain ⟨r0, r1⟩ := hr i (by omega)
    rw [hw i r0 r1]; exact (h.hd i hi).2 e
  · obtain ⟨r0, r1⟩ := hr i (by omega)
    rw [hn i r0 r1]; exact h.p2 i hi
  · obtain ⟨r0, r1⟩ := hr i (by omega)
    rw [hw i r0 r1]; exact h.p3 i hi
  · obtain ⟨r0, r1⟩ := hr i (by omega)
    rw [hn i r0 r1]; exact h.p14 i hi
theorem al_cl {P : Cl.Par} {σ σ' : Ar} {sp : List Sp} {z : Int} {q : List Int} (h : Cl.Inv P σ sp z q) (a : Al (.clh P) sp.length σ σ') : Cl.Inv P σ' sp z q := by
  have ht := a.t
  have hb : ∀ n : Int, 0 ≤ n → n ≤ (sp.length : Int) + 1 → σ'.get (Cl.box P n) = σ.get (Cl.box P n) := fun n n0 n1 => a.get _ (by show P.tail ≤ Cl.box P n ∧ Cl.box P n ≤ P.tail + sp.length + 1; unfold Cl.box; omega)
  have hz := h.zr
  refine { h with hl := a.l, t2 := by have := h.t2; omega, gz := (hb z (by omega) (by omega)).trans h.gz, gT := (a.get P.tail ⟨Int.le_refl _, by omega⟩).trans h.gT, g1 := fun i hi => ?_ }
  obtain ⟨r0, r1⟩ := spOf_range (sp := sp) (i := i) (by unfold Cl.inq Cl.inn at hi; omega)
  have := h.ar i r0 r1
  rw [hb _ (by omega) (by omega)]; exact h.g1 i hi
theorem OkK.al {p : PK} {σ σ' : Ar} {sp : List Sp} {n m m' : Nat} (h : OkK p σ sp n m) (a : Al p n σ σ') (ho : σ'.ops ≤ m' + 1) (hm : m ≤ m') : OkK p σ' sp n m' := by
  cases p with
  | tas P => have h : Ta.OkP P σ sp n m := h; exact ⟨al_ta h.inv a, ho, h.len⟩
  | tic P =>
    have h : Tk.OkP P σ sp n m := h
    obtain ⟨S, T, hi, hT⟩ := h.inv
    exact ⟨⟨S, T, al_tk hi a, by omega⟩, ho, h.nx, h.len⟩
  | par P =>
    have h : Pt.OkP P σ sp n m := h
    obtain ⟨S, T, hi, hT⟩ := h.inv
    exact ⟨⟨S, T, al_pt hi a, by omega⟩, ho, h.nx, h.len⟩
  | mcs P =>
    have h : Mc.OkP P σ sp n m := h
    obtain ⟨q, hi⟩ := h.inv
    have hl := h.len
    subst hl
    exact ⟨⟨q, al_mc hi a⟩, ho, h.nx, rfl, h.small⟩
  | clh P =>
    have h : Cl.OkP P σ sp n m := h
    obtain ⟨z, q, hi⟩ := h.inv
    have hl := h.len
    subst hl
    exact ⟨⟨z, q, al_cl hi a⟩, ho, h.nx, rfl, h.small⟩
theorem QuK.al {p : PK} {σ σ' : Ar} {sp : List Sp} {q : List Int} (h : QuK p σ sp q) (a : Al p sp.length σ σ') : QuK p σ' sp q := by
  cases p with
  | tas P => exact absurd h id
  | tic P => obtain ⟨S, T, hi, h1⟩ := h; exact ⟨S, T, al_tk hi a, h1⟩
  | par P => obtain ⟨S, T, hi, h1⟩ := h; exact ⟨S, T, al_pt hi a, h1⟩
  | mcs P => exact al_mc h a
  | clh P => obtain ⟨z, h⟩ := h; exact ⟨z, al_cl h a⟩
structure Ow (p : PK) (N : Nat) (σ σ' : Ar) : Prop where
  get : ∀ q, ¬ inR p N q → σ'.get q = σ.get q
  t : σ'.t = σ.t
  l : σ'.ws.length = σ.ws.length
theorem Ow.refl (p : PK) (N : Nat) (σ : Ar) : Ow p N σ σ := ⟨fun _ _ => rfl, rfl, rfl⟩
theorem Ow.op {p : PK} {N : Nat} {σ : Ar} (hl : σ.t ≤ σ.ws.length) (kd q v : Int) (wr : Bool) (hq : wr = true → inR p N q) : Ow p N σ (σ.op kd q wr v) :=
  by
  refine ⟨fun x hx => ?_, op_t _ _ _ _ _, op_len _ _ _ _ _⟩
  rw [get_op σ hl]
  split
  · rename_i h
    exact absurd (h.2.2 ▸ hq h.2.1) hx
  · rfl
theorem Ow.al {p p' : PK} {N N' : Nat} {σ σ' : Ar} (h : Ow p N σ σ') (hl : σ.t ≤ σ.ws.length) (hd : ∀ q, inR p' N' q → ¬ inR p N q) : Al p' N' σ σ' :=
  ⟨fun q hq => h.get q (hd q hq), by rw [h.t]; exact Nat.le_refl _, by rw [h.t, h.l]; exact hl⟩
theorem chain_pred {P : Mc.Par} {σ : Ar} {sp : List Sp} {q : List Int} (h : Mc.Chain P σ sp q) {j : Int} (hj : j ∈ q.tail) (h4 : (spOf sp j).pc = 4) : ∃ i, i ∈ q ∧ (spOf sp j).a = i + 1 := by
  induction q with
  | nil => simp at hj
  | cons i q ih =>
    cases q with
    | nil => simp at hj
    | cons k q =>
      obtain ⟨h1, h2, h3⟩ := h
      have hj : j ∈ k :: q := hj
      rcases List.mem_cons.1 hj with rfl | hj
      · rcases h1 with h1 | h1
        · exact ⟨i, by simp, h1.2.1⟩
        · omega
      · obtain ⟨x, x1, x2⟩ := ih h3 hj
        exact ⟨x, List.mem_cons_of_mem _ x1, x2⟩
theorem do_ow {p : PK} {σ : Ar} {sp : List Sp} {n m : Nat} (h : OkK p σ sp n m) (kd i : Int) : Ow p n σ (doK p σ sp kd i).2.1 := by
  cases p with
  | tas P =>
    have h : Ta.OkP P σ sp n m := h
    have hl := h.inv.hl
    show Ow (.tas P) n σ (Ta.doP P σ sp kd i).2.1
    unfold Ta.doP Ta.stepP
    repeat' (first | exact Ow.refl _ _ _ | exact Ow.op hl _ _ _ _ (fun _ => rfl) | split)
  | tic P =>
    have h : Tk.OkP P σ sp n m := h
    obtain ⟨S, T, hi, _⟩ := h.inv
    have hl := hi.hl
    have hp : P.parts = 1 := rfl
    have h2 : ∀ t, inR (.tic P) n (Tk.place P t) := fun t => by
      obtain ⟨x, x0, x1, e⟩ := Tk.place_in hi.p1 t
      show P.next ≤ Tk.place P t ∧ Tk.place P t ≤ P.next + 1
      rw [e]; omega
    have h1 : inR (.tic P) n P.next := ⟨Int.le_refl _, by omega⟩
    show Ow (.tic P) n σ (Tk.doP P σ sp kd i).2.1
    unfold Tk.doP Tk.stepP Tk.aloneP
    repeat' (first | exact Ow.refl _ _ _ | exact Ow.op hl _ _ _ _ (fun _ => h1) | exact Ow.op hl _ _ _ _ (fun _ => h2 _) | split)
  | par P =>
    have h : Pt.OkP P σ sp n m := h
    obtain ⟨S, T, hi, _⟩ := h.inv
    have hl := hi.hl
    have hp := hi.p1
    have h2 : ∀ t, inR (.par P) n (Pt.place P t) := fun t => by
      obtain ⟨x, x0, x1, e⟩ := Pt.place_in hi.p1 t
      show P.next ≤ Pt.place P t ∧ Pt.place P t ≤ P.next + P.parts
      rw [e]; omega
    have h1 : inR (.par P) n P.next := ⟨Int.le_refl _, by omega⟩
    show Ow (.par P) n σ (Pt.doP P σ sp kd i).2.1
    unfold Pt.doP Pt.stepP Pt.aloneP
    repeat' (first | exact Ow.refl _ _ _ | exact Ow.op hl _ _ _ _ (fun _ => h1) | exact Ow.op hl _ _ _ _ (fun _ => h2 _) | split)
  | mcs P =>
    have h : Mc.OkP P σ sp n m := h
    obtain ⟨q, hi⟩ := h.inv
    have hl := hi.hl
    have hlen := h.len
    have h0 : inR (.mcs P) n P.tail := ⟨Int.le_refl _, by omega⟩
    have hn : ∀ x : Int, 1 ≤ x → x ≤ n → inR (.mcs P) n (Mc.nx P x) := fun x x0 x1 => by show P.tail ≤ Mc.nx P x ∧ Mc.nx P x ≤ P.tail + 2 * n; unfold Mc.nx; omega
    have hw : ∀ x : Int, 0 ≤ x → x ≤ n → inR (.mcs P) n (Mc.wt P x) := fun x x0 x1 => by show P.tail ≤ Mc.wt P x ∧ Mc.wt P x ≤ P.tail + 2 * n; unfold Mc.wt; omega
    have hr : (spOf sp i).pc ≠ 0 → 0 ≤ i ∧ i < sp.length := fun e => spOf_range e
    have ha := hi.ar i
    show Ow (.mcs P) n σ (Mc.doP P σ sp kd i).2.1
    unfold Mc.doP
    by_cases k0 : kd = 0
    · rw [if_pos k0]
      rcases mcpcs hi i with e | e | e | e | e | e | e | e | e | e | e
      · rw [Mc.step_no (.inl e)]; exact Ow.refl _ _ _
      · have := hr (by omega); rw [Mc.step_1 e]; exact Ow.op hl _ _ _ _ (fun _ => hn _ (by omega) (by omega))
      · have := hr (by omega); rw [Mc.step_2 e]; exact Ow.op hl _ _ _ _ (fun _ => hw _ (by omega) (by omega))
      · rw [Mc.step_3 e]; exact Ow.op hl _ _ _ _ (fun _ => h0)
      · have hq : i ∈ q := (hi.mem i).2 (.inl e)
        have ht : i ∈ q.tail := by
          cases q with
          | nil => simp at hq
          | cons u l =>
            rcases List.mem_cons.1 hq with rfl | hq
            · exact absurd e (hi.hd i rfl).1
            · exact hq
        obtain ⟨u, u1, u2⟩ := chain_pred hi.ch ht e
        have := hi.range u u1
        rw [Mc.step_4 e]; exact Ow.op hl _ _ _ _ (fun _ => hn _ (by omega) (by omega))
      · rw [Mc.step_5 e]; exact Ow.op hl _ _ _ _ (fun h => by cases h)
      · rw [Mc.step_no (.inr e)]; exact Ow.refl _ _ _
      · rw [Mc.step_look (.inl e)]; exact Ow.op hl _ _ _ _ (fun h => by cases h)
      · rw [Mc.step_12 e]; exact Ow.op hl _ _ _ _ (fun _ => h0)
      · rw [Mc.step_look (.inr e)]; exact Ow.op hl _ _ _ _ (fun h => by cases h)
      · rw [Mc.step_14 e]; exact Ow.op hl _ _ _ _ (fun _ => hw _ (by omega) (by omega))
    · rw [if_neg k0]
      unfold Mc.aloneP
      repeat' (first | exact Ow.refl _ _ _ | exact Ow.op hl _ _ _ _ (fun h => by cases h) | split)
  | clh P =>
    have h : Cl.OkP P σ sp n m := h
    obtain ⟨z, q, hi⟩ := h.inv
    have hl := hi.hl
    have hlen := h.len
    have hb : ∀ x : Int, 0 ≤ x → x ≤ (n : Int) + 1 → inR (.clh P) n (Cl.box P x) := fun x x0 x1 => by show P.tail ≤ Cl.box P x ∧ Cl.box P x ≤ P.tail + n + 1; unfold Cl.box; omega
    have ha : (spOf sp i).pc ≠ 0 → 1 ≤ (spOf sp i).a ∧ (spOf sp i).a ≤ sp.length + 1 := fun e => by
      have := spOf_range (sp := sp) (i := i) e
      exact hi.ar i this.1 this.2
    show Ow (.clh P) n σ (Cl.doP P σ sp kd i).2.1
    unfold Cl.doP
    by_cases k0 : kd = 0
    · rw [if_pos k0]
      rcases clpcs hi i with e | e | e | e | e | e
      · rw [Cl.step_no (.inl e)]; exact Ow.refl _ _ _
      · have := ha (by omega); rw [Cl.step_1 e]; exact Ow.op hl _ _ _ _ (fun _ => hb _ (by omega) (by omega))
      · rw [Cl.step_2 e]; exact Ow.op hl _ _ _ _ (fun _ => show P.tail ≤ P.tail ∧ P.tail ≤ P.tail + n + 1 by omega)
      · rw [Cl.step_3 e]; exact Ow.op hl _ _ _ _ (fun h => by cases h)
      · rw [Cl.step_no (.inr e)]; exact Ow.refl _ _ _
      · have := ha (by omega); rw [Cl.step_11 e]; exact Ow.op hl _ _ _ _ (fun _ => hb _ (by omega) (by omega))
    · rw [if_neg k0]
      unfold Cl.aloneP
      repeat' (first | exact Ow.refl _ _ _ | exact Ow.op hl _ _ _ _ (fun h => by cases h) | split)
end Go.Proofs.YtfmiioddhpkdkaaGreat.Fl

/- Locks that share an arena, in memory: a lock stands in memory as it did, whatever the others make of the arena. -/
namespace Go.Proofs.YtfmiioddhpkdkaaGreat.Fl
open Go.RowKit Go.Proofs.YtfmiioddhpkdkaaGreat.Ara Go.Proofs.YtfmiioddhpkdkaaGreat.Lok

theorem PK.At.arena {p : PK} {S : List Nat} {W W' : World} {gl ga ha hs : Nat} {σ σ' : Ar} {sp : List Sp} (k : p.At W gl ga ha hs σ sp) (hm : Mod S W W') (h1 : gl ∉ S) (h4 : hs ∉ S) (ha' : ArAt W' ga ha σ') : p.At W' gl ga ha hs σ' sp := by
  cases p with
  | tas P => obtain ⟨k1, k2, k3, ⟨c, k4⟩, k5⟩ := k; exact ⟨ha', k2.mod hm h4, k3, ⟨c, hm.blk k4 h1⟩, k5⟩
  | tic P => obtain ⟨k1, k2, k3, ⟨c, k4⟩, k5⟩ := k; exact ⟨ha', k2.mod hm h4, k3, ⟨c, hm.blk k4 h1⟩, k5⟩
  | par P => obtain ⟨k1, k2, k3, ⟨c, k4⟩, k5⟩ := k; exact ⟨ha', k2.mod hm h4, k3, ⟨c, hm.blk k4 h1⟩, k5⟩
  | mcs P => obtain ⟨k1, k2, k3, ⟨c, k4⟩, k5⟩ := k; exact ⟨ha', k2.mod hm h4, k3, ⟨c, hm.blk k4 h1⟩, k5⟩
  | clh P => obtain ⟨k1, k2, k3, ⟨c, k4⟩, k5⟩ := k; exact ⟨ha', k2.mod hm h4, k3, ⟨c, hm.blk k4 h1⟩, k5⟩
theorem FLAt.arena {S : List Nat} {W W' : World} {gf gl ga ha hs : Nat} {p : PK} {σ σ' : Ar} {sp : List Sp} (k : FLAt W gf gl ga ha hs p σ sp) (hm : Mod S W W') (h0 : gf ∉ S) (h1 : gl ∉ S) (h4 : hs ∉ S) (ha' : ArAt W' ga ha σ') : FLAt W' gf gl ga ha hs p σ' sp :=
  ⟨FlB.mod k.fb hm h0, k.at_.arena hm h1 h4 ha', k.n1, k.n2, k.n3⟩
theorem inR_new {kind par : Int} {n a : Nat} (hM : mayK kind n par) {q : Int} (h : inR (pkK kind par a) n q) : (a : Int) ≤ q ∧ q < (a : Int) + sizeK kind n par := by
  obtain ⟨⟨k1, k5⟩, ⟨n1, n2⟩, ha1, ha3⟩ := hM
  rcases (show kind = 1 ∨ kind = 2 ∨ kind = 3 ∨ kind = 4 ∨ kind = 5 by omega) with rfl | rfl | rfl | rfl | rfl
  · have h : q = (a : Int) := h
    have hz : sizeK 1 n par = 1 := rfl
    omega
  · have h : (a : Int) ≤ q ∧ q ≤ (a : Int) + 1 := h
    have hz : sizeK 2 n par = 2 := rfl
    omega
  · have h : (a : Int) ≤ q ∧ q ≤ (a : Int) + par := h
    have hz : sizeK 3 n par = 1 + par.toNat := rfl
    have := ha3 rfl
    omega
  · have h : (a : Int) ≤ q ∧ q ≤ (a : Int) + 2 * n := h
    have hz : sizeK 4 n par = 1 + 2 * n := rfl
    omega
  · have h : (a : Int) ≤ q ∧ q ≤ (a : Int) + n + 1 := h
    have hz : sizeK 5 n par = n + 2 := rfl
    omega
end Go.Proofs.YtfmiioddhpkdkaaGreat.Fl

