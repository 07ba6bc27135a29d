/- Merged texts: Auto9, AutoN, GaT, Ga7, Ga8. -/
import Derived.Test.YthffhhgaeolpgaaGreatGt18
set_option linter.unusedVariables false
/- Package auto: Do, whole. -/
namespace Go.Proofs.YthffhhgaeolpgaaGreat.Aut
open Go.RowKit

theorem from3_pos (k : Int) : ((from3 k).2.2.toNat : Int) = (from3 k).2.2 := by
  unfold from3
  repeat' split
  all_goals rfl
theorem do_any (g h : Nat) (s : List Nat) (e : Ev) (w : World) (H : AutoIn w g h s) (hm : s.length ≤ 9223372036854775807) :
    Calls Tryz.prog 41 #[.pointer (some ⟨g, 0, none⟩), .agg (decE e).toArray] w fun r w' => r = .returned (.int .i64 (doS s e).1) ∧ AutoIn w' g h (doS s e).2 ∧ DoneW w h e w' := by
  obtain ⟨kd, th, rd, ct⟩ := e
  have H1 := H.alloc (boxE ⟨kd, th, rd, ct⟩)
  unfold doS
  cases rd
  · rw [if_neg (by simp)]
    by_cases k0 : kd = 0 ∨ kd = 5
    · rw [if_pos k0]
      refine (do_free g h s kd th ct w k0).mono ?_
      rintro r w' ⟨rfl, rfl⟩
      exact ⟨rfl, H1, 0, .inl rfl⟩
    rw [if_neg k0]
    by_cases k1 : kd < 0 ∨ 5 < kd
    · rw [if_pos k1]
      refine (do_wrong g h s kd th ct w k1).mono ?_
      rintro r w' ⟨rfl, rfl⟩
      exact ⟨rfl, H1, 0, .inl rfl⟩
    rw [if_neg k1]
    by_cases hh : hasB s th = false
    · rw [if_pos hh]
      refine (do_none g h s kd th ct w (by omega) H hh).mono ?_
      rintro r w' ⟨rfl, rfl⟩
      exact ⟨rfl, H1, 0, .inl rfl⟩
    rw [if_neg hh]
    have hb : 0 ≤ th ∧ th < s.length := by simpa [hasB] using hh
    obtain ⟨k, rfl⟩ := Int.eq_ofNat_of_zero_le hb.1
    have hl : k < s.length := by omega
    have hs : stateOf s (k : Int) = s[k] := by simp [stateOf, hl]
    simp only [hs]
    by_cases hx : (s[k] : Int) ≠ (from3 kd).1
    · rw [if_pos hx]
      refine (do_not g h k s kd ct w (by omega) H hl hm hx).mono ?_
      rintro r w' ⟨rfl, n, rfl⟩
      exact ⟨by rw [from3_pos], H1, n, .inl rfl⟩
    rw [if_neg hx]
    simp only [ne_eq, Decidable.not_not] at hx
    rcases (show kd = 1 ∨ kd = 2 ∨ kd = 3 ∨ kd = 4 by omega) with rfl | rfl | rfl | rfl
    · rw [if_neg (by simp)]
      refine (do_ask g h k s ct w H hl hm (by simpa [from3] using hx)).mono ?_
      rintro r w' ⟨rfl, n, rfl⟩
      exact ⟨rfl, (H1.drewN n).set k 1 hl, n, .inr ⟨k, 1, rfl⟩⟩
    · by_cases hi : 0 ≤ idxOf s 2
      · rw [if_pos ⟨rfl, hi⟩]
        refine (do_busy g h k s ct w H hl hm (by simp [from3] at hx; omega) hi).mono ?_
        rintro r w' ⟨rfl, n, rfl⟩
        exact ⟨rfl, H1, n, .inl rfl⟩
      · rw [if_neg (fun q => hi q.2)]
        refine (do_enter g h k s ct w H hl hm (by simp [from3] at hx; omega) (by omega)).mono ?_
        rintro r w' ⟨rfl, n, rfl⟩
        exact ⟨rfl, (H1.drewN n).set k 2 hl, n, .inr ⟨k, 2, rfl⟩⟩
    · rw [if_neg (by simp)]
      refine (do_exit g h k s ct w H hl hm (by simp [from3] at hx; omega)).mono ?_
      rintro r w' ⟨rfl, n, rfl⟩
      exact ⟨rfl, (H1.drewN n).set k 3 hl, n, .inr ⟨k, 3, rfl⟩⟩
    · rw [if_neg (by simp)]
      refine (do_rest g h k s ct w H hl hm (by simp [from3] at hx; omega)).mono ?_
      rintro r w' ⟨rfl, n, rfl⟩
      exact ⟨rfl, (H1.drewN n).set k 0 hl, n, .inr ⟨k, 0, rfl⟩⟩
  · rw [if_pos rfl]
    refine (do_read g h s kd th ct w).mono ?_
    rintro r w' ⟨rfl, rfl⟩
    exact ⟨rfl, H1, 0, .inl rfl⟩
end Go.Proofs.YthffhhgaeolpgaaGreat.Aut

/- Package auto: New, its blocks named; what Do turns. -/
namespace Go.Proofs.YthffhhgaeolpgaaGreat.Aut
open Go.RowKit

theorem new_in (t : Int) (w : World) :
    Calls Tryz.prog 40 #[.int .i64 t] w fun e w' => e = .returned (.pointer (some ⟨w.heap.size + 1, 0, none⟩)) ∧ AutoIn w' (w.heap.size + 1) w.heap.size (List.replicate (som t) 0) ∧ w'.heap.size = w.heap.size + 1 + 1 ∧ Below w.heap.size w w' := by
  have hfin : ∀ c, Hid (AutoIn ((w.alloc (.cells (zerosA c) 3)).alloc (.cells #[.slice (some ⟨w.heap.size, 0, none⟩) c c] 155)) (w.heap.size + 1) w.heap.size (List.replicate c 0) ∧
      ((w.alloc (.cells (zerosA c) 3)).alloc (.cells #[.slice (some ⟨w.heap.size, 0, none⟩) c c] 155)).heap.size = w.heap.size + 1 + 1 ∧
      Below w.heap.size w ((w.alloc (.cells (zerosA c) 3)).alloc (.cells #[.slice (some ⟨w.heap.size, 0, none⟩) c c] 155))) := fun c => by
    refine Lib.hid ⟨⟨some ⟨w.heap.size, 0, none⟩, c, ?_, .inr ⟨rfl, by omega, ?_⟩⟩, by simp, (below_new _ _).alloc (by simp) _⟩
    · rw [List.length_replicate]
      exact heap_alloc2_new _ _ _
    · exact heap_alloc2_old _ _ _
  by_cases h0 : t ≤ 0
  · rw [show som t = 0 by unfold som; by_cases h : t < 0; rw [if_pos h]; rw [if_neg h, if_neg (by omega)]; omega]
    have hf := hfin 0
    clear hfin
    have hmk : ∀ W, (Instr.makeSlice 43 (.int .i64 0) (.int .i64 0)).run Tryz.prog W = .ok (.slice (some ⟨W.heap.size, 0, none⟩) 0 0) (W.alloc (.cells (zerosA 0) 3)) := fun W => make_zeros 0 (by omega) W
    have hm2 : t ≤ 32 := by omega
    by_cases h0 : t = 0
    all_goals
      go_enter Tryz.func40, Tryz.ntmps40
      go_wp2_with fail
      go_ret
      exact ⟨rfl, hf.out⟩
  · by_cases h1 : 32 < t
    · rw [show som t = 32 by unfold som; rw [if_neg (by omega), if_pos h1]]
      have hf := hfin 32
      clear hfin
      have hmk : ∀ W, (Instr.makeSlice 43 (.int .i64 32) (.int .i64 32)).run Tryz.prog W = .ok (.slice (some ⟨W.heap.size, 0, none⟩) 32 32) (W.alloc (.cells (zerosA 32) 3)) := fun W => make_zeros 32 (by omega) W
      go_enter Tryz.func40, Tryz.ntmps40
      go_wp2_with fail
      go_ret
      exact ⟨rfl, hf.out⟩
    · obtain ⟨c, rfl⟩ := Int.eq_ofNat_of_zero_le (show 0 ≤ t by omega)
      rw [show som c = c by unfold som; rw [if_neg (by omega), if_neg h1]; omega]
      have hf := hfin c
      clear hfin
      have hmk := fun W => make_zeros c (by omega) W
      have h1 : (c : Int) ≤ 32 := by omega
      have h2 : (0 : Int) ≤ (c : Int) := by omega
      go_enter Tryz.func40, Tryz.ntmps40
      go_wp2_with fail
      go_ret
      exact ⟨rfl, hf.out⟩

theorem DoneW.mod {w w' : World} {h : Nat} {e : Ev} (k : DoneW w h e w') : Mod [h] w w' := by
  obtain ⟨n, rfl | ⟨q, x, rfl⟩⟩ := k
  · exact ((Mod.refl _ _).alloc _).drewN n
  · exact (((Mod.refl _ _).alloc _).drewN n).setCell (by simp) _
theorem DoneW.below {w w' : World} {h B : Nat} {e : Ev} (k : DoneW w h e w') (hB : B ≤ h) (hs : B ≤ w.heap.size) : Below B w w' := k.mod.below hs (by simpa using hB)
theorem AutoIn.lt {w : World} {g h : Nat} {s : List Nat} (k : AutoIn w g h s) : g < w.heap.size := by
  obtain ⟨A, c, h1, _⟩ := k
  exact lt_of_blk h1
theorem AutoIn.below {w w' : World} {g h B : Nat} {s : List Nat} (k : AutoIn w g h s) (hb : Below B w w') (hg : g < B) (hh : h < B) : AutoIn w' g h s := by
  obtain ⟨A, c, h1, h2⟩ := k
  refine ⟨A, c, (hb.block g hg).trans h1, ?_⟩
  rcases h2 with h2 | ⟨a, b, c⟩
  · exact .inl h2
  · exact .inr ⟨a, b, (hb.block h hh).trans c⟩

end Go.Proofs.YthffhhgaeolpgaaGreat.Aut

/- Layer 21's law GateTrace: what comes of a pick is a trace: the plain law. -/
namespace Go.Proofs.YthffhhgaeolpgaaGreat.Ga
open Go.RowKit Go.Proofs.YthffhhgaeolpgaaGreat.Ara Go.Proofs.YthffhhgaeolpgaaGreat.Lok Go.Proofs.YthffhhgaeolpgaaGreat.Fl Go.Proofs.YthffhhgaeolpgaaGreat.Aut

/-- The automaton is at what the threads are at. -/
def Rel (s : List Nat) (sp : List Sp) : Prop := s.length = sp.length ∧ ∀ i (h : i < s.length) (h' : i < sp.length), (s[i] : Int) = gst sp[i]
theorem Rel.state {s : List Nat} {sp : List Sp} (h : Rel s sp) (t : Int) : (stateOf s t : Int) = gst (spOf sp t) := by
  by_cases ht : 0 ≤ t ∧ t < sp.length
  · obtain ⟨k, rfl⟩ := Int.eq_ofNat_of_zero_le ht.1
    have hk : k < sp.length := by omega
    have hk' : k < s.length := by have := h.1; omega
    rw [spOf_in hk, ← h.2 k hk' hk]
    unfold stateOf
    rw [if_pos ht.1, Int.toNat_natCast, List.getD_eq_getElem?_getD, List.getElem?_eq_getElem hk']
    rfl
  · rw [spOf_out (by omega)]
    unfold stateOf
    split
    · rw [List.getD_eq_getElem?_getD, List.getElem?_eq_none (by have := h.1; omega)]
      rfl
    · rfl
theorem Rel.set {s : List Nat} {sp : List Sp} (h : Rel s sp) {k : Nat} {x : Nat} {s' : Sp} (hx : (x : Int) = gst s') : Rel (s.set k x) (sp.set k s') := by
  refine ⟨by rw [List.length_set, List.length_set]; exact h.1, fun i h1 h2 => ?_⟩
  rw [List.getElem_set, List.getElem_set]
  rw [List.length_set] at h1 h2
  split
  · exact hx
  · exact h.2 i h1 h2
theorem Rel.keep {s : List Nat} {sp : List Sp} (h : Rel s sp) {k : Nat} {s' : Sp} (hk : k < sp.length) (hx : gst s' = gst sp[k]) : Rel s (sp.set k s') := by
  refine ⟨by rw [List.length_set]; exact h.1, fun i h1 h2 => ?_⟩
  rw [List.getElem_set]
  rw [List.length_set] at h2
  split
  · rename_i e
    subst e
    rw [hx]
    exact h.2 _ h1 h2
  · exact h.2 i h1 h2
theorem cnt_two {f : Sp → Bool} {sp : List Sp} {i j : Nat} (hij : i < j) (hi : f (spOf sp (i : Int)) = true) (hj : f (spOf sp (j : Int)) = true) : ∀ n, j < n → 2 ≤ cnt f sp n := by
  intro n hn
  have h1 : 0 < cnt f sp j := cnt_some f sp (i : Int) hi (by omega) j (by omega)
  induction n with
  | zero => omega
  | succ n ih =>
    unfold cnt
    by_cases e : j = n
    · subst e
      rw [if_pos hj]
      omega
    · have := ih (by omega)
      omega
/-- Nobody is in but him, if he is. -/
theorem one_in {sp : List Sp} {n : Nat} (hl : sp.length = n) (h : cnt (fun s => s.pc == 10) sp n ≤ 1) {k : Nat} (hk : k < sp.length) (hp : sp[k].pc = 10) : ∀ i (hi : i < sp.length), i ≠ k → sp[i].pc ≠ 10 := by
  intro i hi hne he
  have hk' : (fun s : Sp => s.pc == 10) (spOf sp (k : Int)) = true := by rw [spOf_in hk]; simpa using hp
  have hi' : (fun s : Sp => s.pc == 10) (spOf sp (i : Int)) = true := by rw [spOf_in hi]; simpa using he
  rcases Nat.lt_or_gt_of_ne hne with h1 | h1
  · have := cnt_two (f := fun s => s.pc == 10) (sp := sp) h1 hi' hk' n (by omega)
    omega
  · have := cnt_two (f := fun s => s.pc == 10) (sp := sp) h1 hk' hi' n (by omega)
    omega
theorem gst2 {s : Sp} (h : gst s = 2) : s.pc = 10 := by
  unfold gst at h
  split at h
  · omega
  split at h
  · omega
  split at h
  · assumption
  · omega
def evOf (e : Ev3) : Ev := ⟨e.1, e.2.1, false, e.2.2⟩
theorem has_in {s : List Nat} {k : Nat} (hk : k < s.length) : hasB s (k : Int) = true := by
  unfold hasB
  rw [decide_eq_true (by omega), decide_eq_true (by omega)]
  rfl
theorem doS_turn {s : List Nat} {k kd x : Nat} {t c : Int} (hk : k < s.length) (ht : t = k) (hkd : kd = 1 ∨ kd = 3 ∨ kd = 4) (hx : (s[k] : Int) = (from3 kd).1) (hn : (from3 kd).2.1.toNat = x) : doS s ⟨kd, t, false, c⟩ = (0, s.set k x) := by
  subst ht
  have h1 : (stateOf s (k : Int) : Int) = s[k] := by
    unfold stateOf
    rw [if_pos (by omega), Int.toNat_natCast, List.getD_eq_getElem?_getD, List.getElem?_eq_getElem hk]
    rfl
  unfold doS
  simp only
  rw [if_neg (by decide), if_neg (by omega), if_neg (by omega), if_neg (by rw [has_in hk]; decide), if_neg (by rw [h1, hx]; simp), if_neg (by omega), hn, Int.toNat_natCast]
theorem doS_enter {s : List Nat} {k : Nat} {t c : Int} (hk : k < s.length) (ht : t = k) (hx : s[k] = 1) (hno : ∀ i (hi : i < s.length), s[i] ≠ 2) : doS s ⟨2, t, false, c⟩ = (0, s.set k 2) := by
  subst ht
  have h1 : (stateOf s (k : Int) : Int) = s[k] := by
    unfold stateOf
    rw [if_pos (by omega), Int.toNat_natCast, List.getD_eq_getElem?_getD, List.getElem?_eq_getElem hk]
    rfl
  unfold doS
  simp only
  rw [if_neg (by decide), if_neg (by omega), if_neg (by omega), if_neg (by rw [has_in hk]; decide), if_neg (by rw [h1, hx]; decide), if_neg (by rw [idx_none hno]; omega), Int.toNat_natCast]
  rfl
theorem turn_k (p : PK) (σ : Ar) (sp : List Sp) (k : Nat) (hk : k < sp.length) : (sp[k].pc = 0 ∧ ∃ s', doK p σ sp 1 k = (true, σ, sp.set k s') ∧ gst s' = 1) ∨ (¬ sp[k].pc = 0 ∧ doK p σ sp 1 k = (false, σ, sp)) := by
  have hta : (sp[k].pc = 0 ∧ ∃ s', (turnB sp k 0, σ, turnS sp k 0 1) = (true, σ, sp.set k s') ∧ gst s' = 1) ∨ (¬ sp[k].pc = 0 ∧ (turnB sp k 0, σ, turnS sp k 0 1) = (false, σ, sp)) := by
    rw [turn_in hk, turnS_in hk]
    by_cases h : sp[k].pc = 0
    · exact .inl ⟨h, _, by rw [if_pos h, show (sp[k].pc == 0) = true from by simpa using h], gst_1 (by simp)⟩
    · exact .inr ⟨h, by rw [if_neg h, show (sp[k].pc == 0) = false from by simpa using h]⟩
  cases p with
  | tas P =>
    show (sp[k].pc = 0 ∧ ∃ s', (turnB sp k 0, σ, Ta.askS sp k) = (true, σ, sp.set k s') ∧ gst s' = 1) ∨ (¬ sp[k].pc = 0 ∧ (turnB sp k 0, σ, Ta.askS sp k) = (false, σ, sp))
    unfold Ta.askS
    rw [turn_in hk, spOf_in hk, Int.toNat_natCast]
    by_cases h : sp[k].pc = 0
    · exact .inl ⟨h, _, by rw [show (sp[k].pc == 0) = true from by simpa using h, if_pos rfl], gst_1 (by simp)⟩
    · exact .inr ⟨h, by rw [show (sp[k].pc == 0) = false from by simpa using h, if_neg (by decide)]⟩
  | tic P => exact hta
  | par P => exact hta
  | mcs P => exact hta
  | clh P => exact hta
theorem leave_k (p : PK) (σ : Ar) (sp : List Sp) (k : Nat) (hk : k < sp.length) : (sp[k].pc = 10 ∧ ∃ s', doK p σ sp 2 k = (true, σ, sp.set k s') ∧ gst s' = 3) ∨ (¬ sp[k].pc = 10 ∧ doK p σ sp 2 k = (false, σ, sp)) := by
  have hta : (sp[k].pc = 10 ∧ ∃ s', (turnB sp k 10, σ, turnS sp k 10 11) = (true, σ, sp.set k s') ∧ gst s' = 3) ∨ (¬ sp[k].pc = 10 ∧ (turnB sp k 10, σ, turnS sp k 10 11) = (false, σ, sp)) := by
    rw [turn_in hk, turnS_in hk]
    by_cases h : sp[k].pc = 10
    · exact .inl ⟨h, _, by rw [if_pos h, show (sp[k].pc == 10) = true from by simpa using h], gst_3 (by simp)⟩
    · exact .inr ⟨h, by rw [if_neg h, show (sp[k].pc == 10) = false from by simpa using h]⟩
  cases p <;> exact hta
/-- What comes of a pick is an event that the automaton takes. -/
structure Tr (σ : Ar) (sp : List Sp) (s : List Nat) (t want : Int) (e : Ev3) (r : Ar × List Sp) : Prop where
  ok : (doS s (evOf e)).1 = 0
  rel : Rel (doS s (evOf e)).2 r.2
  th : e.1 ≠ 0 → e.2.1 = t
  bad : e.1 = 5 → r = (σ, sp) ∧ want ≠ 0
theorem Tr.calm {σ : Ar} {sp sp' : List Sp} {s : List Nat} {t want : Int} {e : Ev3} {σ' : Ar} (hr : Rel s sp') (h0 : e.1 = 0 ∨ e.1 = 5) (ht : e.1 ≠ 0 → e.2.1 = t) (hb : e.1 = 5 → (σ', sp') = (σ, sp) ∧ want ≠ 0) : Tr σ sp s t want e (σ', sp') := by
  have h : doS s (evOf e) = (0, s) := by
    unfold doS evOf
    simp only
    rw [if_neg (by decide), if_pos h0]
  exact ⟨by rw [h], by rw [h]; exact hr, ht, hb⟩
theorem trace_step {p : PK} {σ : Ar} {sp : List Sp} {n m : Nat} (ho : OkK p σ sp n m) {s : List Nat} (hr : Rel s sp) (t want : Int) : Tr σ sp s t want (gact p σ sp t want).1 (gact p σ sp t want).2 := by
  have hn := ok_gact ho t want
  unfold gact at hn ⊢
  by_cases ht : t < 0 ∨ (sp.length : Int) ≤ t
  · rw [if_pos ht]
    exact .calm hr (.inl rfl) (fun h => absurd rfl h) (fun h => by simp at h)
  rw [if_neg ht] at hn ⊢
  obtain ⟨k, rfl⟩ := Int.eq_ofNat_of_zero_le (show 0 ≤ t by omega)
  have hk : k < sp.length := by omega
  have hks : k < s.length := by have := hr.1; omega
  have hsk := hr.2 k hks hk
  rw [spOf_in hk] at hn ⊢
  by_cases h0 : want = 0
  · rw [if_pos h0] at hn ⊢
    by_cases hw : gst sp[k] = 1 ∨ gst sp[k] = 3
    · rw [if_pos hw] at hn ⊢
      obtain ⟨s', hs', hst⟩ := sw_k σ sp k hk p
      generalize doK p σ sp 0 (k : Int) = r at *
      obtain ⟨b, σ2, sp2⟩ := r
      simp only at hs' hst hn
      subst hs'
      cases b with
      | false =>
        simp only [Bool.false_eq_true, if_false]
        refine .calm (hr.keep hk ?_) (.inl rfl) (fun h => absurd rfl h) (fun h => by simp at h)
        rcases hw with hw | hw
        · rw [hst.1 hw, hw]; rfl
        · rw [hst.2 hw, hw]; rfl
      | true =>
        rcases hw with hw | hw
        · have hg := hst.1 hw
          rw [if_pos rfl] at hg
          have hone := one_in (sp := sp.set k s') hn.len hn.one (k := k) (by rw [List.length_set]; exact hk) (by rw [List.getElem_set_self]; exact gst2 hg)
          have hd : doS s (evOf (2, (k : Int), 1)) = (0, s.set k 2) := doS_enter hks rfl (by omega) (fun i hi he => by
            have hi' : i < sp.length := by have := hr.1; omega
            by_cases e : i = k
            · subst e; omega
            · have h3 := hone i (by rw [List.length_set]; exact hi') e
              rw [List.getElem_set_ne (by omega)] at h3
              have h4 := hr.2 i hi hi'
              exact h3 (gst2 (by omega)))
          simp only [if_true, hw]
          exact ⟨by rw [hd], by rw [hd]; exact hr.set (by rw [hg]; rfl), fun _ => rfl, fun h => by simp at h⟩
        · have hg := hst.2 hw
          rw [if_pos rfl] at hg
          have hd : doS s (evOf (4, (k : Int), 0)) = (0, s.set k 0) := doS_turn (kd := 4) hks rfl (by omega) (by rw [hsk, hw]; rfl) rfl
          simp only [if_true, hw, show ¬ ((3 : Int) = 1) by omega, if_false]
          exact ⟨by rw [hd], by rw [hd]; exact hr.set (by rw [hg]; rfl), fun _ => rfl, fun h => by simp at h⟩
    · rw [if_neg hw]
      exact .calm hr (.inl rfl) (fun h => absurd rfl h) (fun h => by simp at h)
  rw [if_neg h0]
  by_cases h1 : want = 1
  · rw [if_pos h1]
    rcases turn_k p σ sp k hk with ⟨hp, s', hd, hg⟩ | ⟨_, hd⟩
    · rw [hd]
      have hd : doS s (evOf (1, (k : Int), 0)) = (0, s.set k 1) := doS_turn (kd := 1) hks rfl (by omega) (by rw [hsk, gst_0 hp]; rfl) rfl
      simp only [if_true]
      exact ⟨by rw [hd], by rw [hd]; exact hr.set (by rw [hg]; rfl), fun _ => rfl, fun h => by simp at h⟩
    · rw [hd]
      simp only [Bool.false_eq_true, if_false]
      exact .calm hr (.inr rfl) (fun _ => rfl) (fun _ => ⟨rfl, h0⟩)
  rw [if_neg h1]
  by_cases h2 : want = 2
  · rw [if_pos h2]
    rcases leave_k p σ sp k hk with ⟨hp, s', hd, hg⟩ | ⟨_, hd⟩
    · rw [hd]
      have hd : doS s (evOf (3, (k : Int), 0)) = (0, s.set k 3) := doS_turn (kd := 3) hks rfl (by omega) (by rw [hsk, gst_2 hp]; rfl) rfl
      simp only [if_true]
      exact ⟨by rw [hd], by rw [hd]; exact hr.set (by rw [hg]; rfl), fun _ => rfl, fun h => by simp at h⟩
    · rw [hd]
      simp only [Bool.false_eq_true, if_false]
      exact .calm hr (.inr rfl) (fun _ => rfl) (fun _ => ⟨rfl, h0⟩)
  rw [if_neg h2]
  exact .calm hr (.inr rfl) (fun _ => rfl) (fun _ => ⟨rfl, h0⟩)
end Go.Proofs.YthffhhgaeolpgaaGreat.Ga

/- Layer 21's law: awake. -/
namespace Go.Proofs.YthffhhgaeolpgaaGreat.Ga
open Go.RowKit Go.Proofs.YthffhhgaeolpgaaGreat.Ara Go.Proofs.YthffhhgaeolpgaaGreat.Lok Go.Proofs.YthffhhgaeolpgaaGreat.Fl

def pl21 : List Pl := [⟨0, 1, 1, false⟩]
def l21 : List Int := [0, 0, 0, 0, 0, 0, 0, 9]
def ev21 : List Ev3 := [(1, 0, 0), (0, 0, 0), (2, 0, 1), (0, 0, 0), (3, 0, 0), (4, 0, 0), (0, 0, 0), (0, 0, 0)]
def x21 (rest : List Int) : Ar × List Sp := (gact (.tic ⟨1⟩) ⟨0 :: 0 :: rest, 2, 0, 0, 0, false⟩ [sp0, sp0] 1 2).2
def r21 (rest : List Int) : RunS (Ar × List Sp) := runL (fun x t => gst (spOf x.2 t)) (fun x t w => gact (.tic ⟨1⟩) x.1 x.2 t w) pl21 (x21 rest) l21
theorem r21_first (rest : List Int) : (gact (.tic ⟨1⟩) ⟨0 :: 0 :: rest, 2, 0, 0, 0, false⟩ [sp0, sp0] 1 2).1 = (5, 1, 0) := by kernel_rfl
set_option maxRecDepth 100000 in
theorem r21_out (rest : List Int) : (r21 rest).out = ev21 := by kernel_rfl
set_option maxRecDepth 100000 in
theorem r21_x (rest : List Int) : (r21 rest).x.1.t = 2 ∧ (r21 rest).x.1.ws.take 2 = [1, 1] ∧ (r21 rest).x.1.ops = 3 ∧ (r21 rest).x.2.length = 2 ∧ gst (spOf (r21 rest).x.2 0) = 0 := ⟨by kernel_rfl, by kernel_rfl, by kernel_rfl, by kernel_rfl, by kernel_rfl⟩
set_option maxRecDepth 100000 in
theorem fresh2 : ∃ rest, ({ Ar.fresh 4096 with t := sizeK 2 2 0 } : Ar) = ⟨0 :: 0 :: rest, 2, 0, 0, 0, false⟩ := ⟨List.replicate 4094 0, by kernel_rfl⟩
theorem isI_small {t : Int} (h : 0 ≤ t ∧ t ≤ 100) : isI t := WalkArith.wf_i64 (by omega)
theorem sl_of {w W : World} {g B : Nat} {xs : List Value} {T : TypeId} {S : List Nat} (hb : w.heap[g]? = some (.cells xs.toArray T (0, 0))) (hm : Mod S w W) (hg : g ∉ S) (hB : g < B) : Sl W B (some ⟨g, 0, none⟩) xs := .inr ⟨g, 0, rfl, hB, fun j hj => by
  have := blk_cell ((hm.blk hb hg)) j (by simpa using hj)
  simpa using this⟩
def toEv (e : Ev3) : Evs.Ev := ⟨e.1, e.2.1, false, e.2.2⟩
theorem flat_ev (l : List Ev3) : l.flatMap decEv = (l.map toEv).flatMap Evs.dE := by
  rw [List.flatMap_map]
  rfl
set_option maxHeartbeats 8000000 in
set_option maxRecDepth 100000 in
theorem awake21 (w : World) : Calls Tryz.prog 29 #[] w fun e w' => e = .returned (.bool true) ∧ Below w.heap.size w w' := by
  obtain ⟨rest, hrest⟩ := fresh2
  have HN : Calls Tryz.prog 30 #[.int .i64 2, .int .i64 2, .int .i64 0] w (GNew 2 2 0 w) := gnew_any 2 2 0 ⟨by omega, by omega, fun h => by omega, fun h => by omega⟩ w
  replace HN := Lib.hid HN
  have HREST := Lib.hid hrest
  clear hrest
  go_enter Tryz.func29, Tryz.ntmps29
  go_wp2_with fail
  refine HN.out.mono ?_
  rintro e w1 ⟨gg, gf, gl, hs, rfl, hk, ⟨b1, b2, b3, b4⟩, hb⟩
  rw [HREST.out] at hk
  have hK : GAt w1 gg gf gl (w.heap.size + 1) w.heap.size hs (.tic ⟨1⟩) ⟨0 :: 0 :: rest, 2, 0, 0, 0, false⟩ [sp0, sp0] := hk
  have HK := Lib.hid hK
  have HB := Lib.hid hb
  clear hk hK hb HN
  have HO : OkK (.tic ⟨1⟩) ⟨0 :: 0 :: rest, 2, 0, 0, 0, false⟩ [sp0, sp0] 2 0 := by
    have h := ok_flat 2 2 0 ⟨by omega, by omega, fun h => by omega, fun h => by omega⟩ (Ar.fresh 4096) (fun k _ => zeros_getD _ _) (by simp [Ar.fresh, zerosW, sizeK]) (by simp [Ar.fresh, zerosW]) 0 (Nat.le_refl _)
    have e : ({ Ar.fresh 4096 with t := (Ar.fresh 4096).t + sizeK 2 2 0 } : Ar) = _ := HREST.out
    rw [e] at h
    exact h
  replace HO := Lib.hid HO
  go_wp2_with fail
  refine (gnew_kind9 _).mono ?_
  rintro e w2 ⟨rfl, hb2⟩
  have HK2 := Lib.hid (HK.out.same hb2)
  have HB2 := Lib.hid (HB.out.trans (hb2.mono HB.out.size))
  clear hb2 HK HB
  go_wp2_with fail
  refine (do_g HK2.out 2 0 HO.out (by omega) 1 2).mono ?_
  rw [r21_first]
  rintro e w3 ⟨rfl, hk3, hm3⟩
  have HO3 := Lib.hid (ok_gact HO.out 1 2)
  have HK3 : Hid (GAt w3 gg gf gl (w.heap.size + 1) w.heap.size hs (.tic ⟨1⟩) (x21 rest).1 (x21 rest).2) := Lib.hid hk3
  have HB3 := Lib.hid (HB2.out.trans (hm3.below HB2.out.size (by simp; omega)))
  clear hk3 hm3 HK2 HB2 HO
  simp only [gev]
  go_wp2_with fail
  have hbb := HK3.out.blocks
  have hK3 := HK3.out
  have hO3 := HO3.out
  have hB3 := HB3.out
  have hz : (((w3.alloc (.cells #[.int .i64 5, .int .i64 1, .bool false, .int .i64 0] 65)).alloc (.cells #[.int .i64 0, .int .i64 1, .int .i64 1, .bool false] 149)).alloc (.cells #[.int .i64 0, .int .i64 0, .int .i64 0, .int .i64 0, .int .i64 0, .int .i64 0, .int .i64 0, .int .i64 9] 3)).heap.size = w3.heap.size + 3 := by simp
  have hw3 : Below w3.heap.size w3 (((w3.alloc (.cells #[.int .i64 5, .int .i64 1, .bool false, .int .i64 0] 65)).alloc (.cells #[.int .i64 0, .int .i64 1, .int .i64 1, .bool false] 149)).alloc (.cells #[.int .i64 0, .int .i64 0, .int .i64 0, .int .i64 0, .int .i64 0, .int .i64 0, .int .i64 0, .int .i64 9] 3)) := (((below_new _ _).alloc (by simp) _).alloc (by simp; omega) _)
  have k5 : (((w3.alloc (.cells #[.int .i64 5, .int .i64 1, .bool false, .int .i64 0] 65)).alloc (.cells #[.int .i64 0, .int .i64 1, .int .i64 1, .bool false] 149)).alloc (.cells #[.int .i64 0, .int .i64 0, .int .i64 0, .int .i64 0, .int .i64 0, .int .i64 0, .int .i64 0, .int .i64 9] 3)).heap[w3.heap.size]? = some (.cells #[.int .i64 5, .int .i64 1, .bool false, .int .i64 0] 65) := blk_alloc (blk_alloc (blk_new w3 _) _) _
  have kp : (((w3.alloc (.cells #[.int .i64 5, .int .i64 1, .bool false, .int .i64 0] 65)).alloc (.cells #[.int .i64 0, .int .i64 1, .int .i64 1, .bool false] 149)).alloc (.cells #[.int .i64 0, .int .i64 0, .int .i64 0, .int .i64 0, .int .i64 0, .int .i64 0, .int .i64 0, .int .i64 9] 3)).heap[w3.heap.size + 1]? = some (.cells #[.int .i64 0, .int .i64 1, .int .i64 1, .bool false] 149) := blk_alloc (show ((w3.alloc (.cells #[.int .i64 5, .int .i64 1, .bool false, .int .i64 0] 65)).alloc (.cells #[.int .i64 0, .int .i64 1, .int .i64 1, .bool false] 149)).heap[w3.heap.size + 1]? = _ by simpa using blk_new (w3.alloc (.cells #[.int .i64 5, .int .i64 1, .bool false, .int .i64 0] 65)) (.cells #[.int .i64 0, .int .i64 1, .int .i64 1, .bool false] 149)) _
  have kq : (((w3.alloc (.cells #[.int .i64 5, .int .i64 1, .bool false, .int .i64 0] 65)).alloc (.cells #[.int .i64 0, .int .i64 1, .int .i64 1, .bool false] 149)).alloc (.cells #[.int .i64 0, .int .i64 0, .int .i64 0, .int .i64 0, .int .i64 0, .int .i64 0, .int .i64 0, .int .i64 9] 3)).heap[w3.heap.size + 1 + 1]? = some (.cells #[.int .i64 0, .int .i64 0, .int .i64 0, .int .i64 0, .int .i64 0, .int .i64 0, .int .i64 0, .int .i64 9] 3) := by simpa using blk_new ((w3.alloc (.cells #[.int .i64 5, .int .i64 1, .bool false, .int .i64 0] 65)).alloc (.cells #[.int .i64 0, .int .i64 1, .int .i64 1, .bool false] 149)) (.cells #[.int .i64 0, .int .i64 0, .int .i64 0, .int .i64 0, .int .i64 0, .int .i64 0, .int .i64 0, .int .i64 9] 3)
  have HR := Lib.hid (run_any (.pointer (some ⟨gg, 0, none⟩)) _ _ _ [w.heap.size + 1, w.heap.size, hs] _ (gi_real gg gf gl (w.heap.size + 1) w.heap.size hs (.tic ⟨1⟩) 2 1 (by omega) (((w3.alloc (.cells #[.int .i64 5, .int .i64 1, .bool false, .int .i64 0] 65)).alloc (.cells #[.int .i64 0, .int .i64 1, .int .i64 1, .bool false] 149)).alloc (.cells #[.int .i64 0, .int .i64 0, .int .i64 0, .int .i64 0, .int .i64 0, .int .i64 0, .int .i64 0, .int .i64 9] 3)).heap.size (by omega) (by omega) (by omega) (by omega) (by omega) (by omega)) pl21 (some ⟨w3.heap.size + 1, 0, none⟩) 1 (by decide) (fun W hW => sl_of (xs := pl21.flatMap decPl) kp hW (by simp; omega) (by omega)) l21 (some ⟨w3.heap.size + 1 + 1, 0, none⟩) 8 (by decide) (fun t ht => isI_small (by simp [l21] at ht; omega)) (fun W hW => sl_of (xs := l21.flatMap decI) kq hW (by simp; omega) (by omega)) (x21 rest) ⟨hK3.same hw3, hO3⟩)
  have HB4 := Lib.hid (hB3.trans (hw3.mono hB3.size))
  have HE5 := Lib.hid k5
  have hzz := hB3.size
  have hlt : w.heap.size + 1 < w3.heap.size ∧ w.heap.size < w3.heap.size ∧ hs < w3.heap.size := by omega
  clear hbb hK3 hO3 hB3 hw3 kp kq k5 HK3 HO3 HB3
  generalize (((w3.alloc (.cells #[.int .i64 5, .int .i64 1, .bool false, .int .i64 0] 65)).alloc (.cells #[.int .i64 0, .int .i64 1, .int .i64 1, .bool false] 149)).alloc (.cells #[.int .i64 0, .int .i64 0, .int .i64 0, .int .i64 0, .int .i64 0, .int .i64 0, .int .i64 0, .int .i64 9] 3)) = W3 at *
  generalize w3.heap.size = n3 at *
  refine HR.out.mono ?_
  rintro e w4 ⟨B, cb, rfl, hown, ⟨hk4, _⟩, hm4⟩
  have hown2 : w4.ownsRow (W3.heap.size + 1) 65 4 (.slice B 8 cb) 8 (ev21.flatMap decEv) := by rw [← r21_out rest]; exact hown
  have hk5 : GAt w4 gg gf gl (w.heap.size + 1) w.heap.size hs (.tic ⟨1⟩) (r21 rest).x.1 (r21 rest).x.2 := hk4
  obtain ⟨x1, x2, x3, x4, x5⟩ := r21_x rest
  generalize (r21 rest).x = X8 at *
  obtain ⟨σ8, sp8⟩ := X8
  simp only at x1 x2 x3 x4 x5 hk5
  have HK4 := Lib.hid hk5
  have HB5 := Lib.hid (HB4.out.trans (hm4.below HB4.out.size (by simp; omega)))
  have HE6 := Lib.hid (show w4.heap[n3]? = _ from hm4.blk HE5.out (by simp; omega))
  obtain ⟨B2, c2, hBc, _, _, hsl⟩ := own_slice hown2
  cases hBc
  rw [flat_ev] at hsl
  have HSL := Lib.hid (show Sl w4 w4.heap.size B ((ev21.map toEv).flatMap Evs.dE) from hsl)
  have hev : ∀ W, (binOp .eql 65 (.agg #[.int .i64 5, .int .i64 1, .bool false, .int .i64 0]) (.agg #[.int .i64 5, .int .i64 1, .bool false, .int .i64 0])).run Tryz.prog W = .ok (.bool true) W := fun W => by rw [Evs.eqE]; rfl
  have heg := fun x y xs ys W => Evs.eqGE x y xs ys W
  have q0 := blk_cell HE6.out 0 (by simp)
  have q1 := blk_cell HE6.out 1 (by simp)
  have q2 := blk_cell HE6.out 2 (by simp)
  have q3 := blk_cell HE6.out 3 (by simp)
  simp only [List.getElem_toArray, List.getElem_cons_zero, List.getElem_cons_succ] at q0 q1 q2 q3
  have hn3 : n3 < w4.heap.size := lt_of_blk HE6.out
  clear hown hown2 hk4 hk5 hm4 HE5 HB4 HR hsl HREST
  simp only [show l21.length = 8 from rfl]
  go_wp2_with fail
  have hsame := Evs.esame_any (ev21.map toEv) (ev21.map toEv) B (some ⟨w4.heap.size, 0, none⟩) cb 8 (w4.alloc (.cells ((ev21.map toEv).flatMap Evs.dE).toArray 65)) (by decide) (by decide) (HSL.out.push _) (Sl.made w4 ((ev21.map toEv).flatMap Evs.dE).toArray 65)
  rw [decide_eq_true rfl] at hsame
  refine hsame.mono ?_
  rintro e w5 ⟨rfl, hb5⟩
  have hbn5 := (below_new w4 (.cells ((ev21.map toEv).flatMap Evs.dE).toArray 65)).trans (hb5.mono (by simp))
  have HK5 := Lib.hid (HK4.out.same hbn5)
  have HB6 := Lib.hid (HB5.out.trans (hbn5.mono HB5.out.size))
  clear hsame hb5 hbn5 HK4 HB5 HE6 HSL q0 q1 q2 q3 hev heg
  go_wp2_with fail
  refine (words_g HK5.out).mono ?_
  rw [x1, x2]
  rintro e w6 ⟨A, c, rfl, hsl6, hb6⟩
  have HSL6 := Lib.hid hsl6
  have HK6 := Lib.hid (HK5.out.same hb6)
  have HB7 := Lib.hid (HB6.out.trans (hb6.mono HB6.out.size))
  clear hsl6 hb6 HK5 HB6
  go_wp2_with fail
  have hsame := same_any [1, 1] [1, 1] A (some ⟨w6.heap.size, 0, none⟩) c 2 (w6.alloc (.cells (([1, 1] : List Int).flatMap decI).toArray 3)) (by decide) (by decide) (HSL6.out.push _) (Sl.made w6 (([1, 1] : List Int).flatMap decI).toArray 3)
  rw [decide_eq_true rfl] at hsame
  refine hsame.mono ?_
  rintro e w7 ⟨rfl, hb7⟩
  have hbn7 := (below_new w6 (.cells (([1, 1] : List Int).flatMap decI).toArray 3)).trans (hb7.mono (by simp))
  have HK7 := Lib.hid (HK6.out.same hbn7)
  have HB8 := Lib.hid (HB7.out.trans (hbn7.mono HB7.out.size))
  clear hsame hb7 hbn7 HK6 HB7 HSL6
  go_wp2_with fail
  have ho7 := ops_g HK7.out
  rw [x3] at ho7
  refine (ho7).mono ?_
  rintro e wx ⟨rfl, hwx⟩
  obtain rfl := hwx.symm
  go_wp2_with fail
  have ht7 := threads_g HK7.out
  rw [x4] at ht7
  refine (ht7).mono ?_
  rintro e wx ⟨rfl, hwx⟩
  obtain rfl := hwx.symm
  go_wp2_with fail
  have hs7 := state_g HK7.out 0
  rw [x5] at hs7
  refine hs7.mono ?_
  rintro e w8 ⟨rfl, hb8⟩
  have HB9 := Lib.hid (HB8.out.trans (hb8.mono HB8.out.size))
  clear hb8 HB8
  go_wp2_with fail
  go_ret
  exact ⟨rfl, HB9.out⟩
end Go.Proofs.YthffhhgaeolpgaaGreat.Ga

/- Layer 21's law: GateNone. -/
namespace Go.Proofs.YthffhhgaeolpgaaGreat.Ga
open Go.RowKit Go.Proofs.YthffhhgaeolpgaaGreat.Ara Go.Proofs.YthffhhgaeolpgaaGreat.Lok Go.Proofs.YthffhhgaeolpgaaGreat.Fl

theorem frame61 {a : Act} (h : a.tmps.size = 61) (hd : a.defers = []) : ∃ u : Nat → Value, a = { tmps := #[u 0, u 1, u 2, u 3, u 4, u 5, u 6, u 7, u 8, u 9, u 10, u 11, u 12, u 13, u 14, u 15, u 16, u 17, u 18, u 19, u 20, u 21, u 22, u 23, u 24, u 25, u 26, u 27, u 28, u 29, u 30, u 31, u 32, u 33, u 34, u 35, u 36, u 37, u 38, u 39, u 40, u 41, u 42, u 43, u 44, u 45, u 46, u 47, u 48, u 49, u 50, u 51, u 52, u 53, u 54, u 55, u 56, u 57, u 58, u 59, u 60], defers := [] } ∧ ∀ n, a.tmps.getD n undef = u n := by
  refine ⟨fun n => a.tmps.getD n undef, ?_, fun _ => rfl⟩
  have h1 := arr_lit a.tmps h
  cases a with
  | mk t d =>
    simp only at hd h1
    subst hd
    congr 1
theorem gx0 (a b : Option Addr) (W : World) : (Instr.index 74 (.agg #[.pointer a, .pointer b]) (.int .i64 0)).run Tryz.prog W = .ok (.pointer a) W := by
  simp [Instr.index, run_underlying Tryz.underlying74, asIntOf, go_sem]
theorem gx1 (a b : Option Addr) (W : World) : (Instr.index 74 (.agg #[.pointer a, .pointer b]) (.int .i64 1)).run Tryz.prog W = .ok (.pointer b) W := by
  simp [Instr.index, run_underlying Tryz.underlying74, asIntOf, go_sem]
def GnJ (t wn : Int) (w : World) (a : Act) (W : World) : Prop :=
  a.tmps.size = 61 ∧ a.defers = [] ∧ a.tmps.getD 1 undef = .pointer (some ⟨w.heap.size, 0, none⟩) ∧ a.tmps.getD 10 undef = .agg #[.pointer none, .pointer (some ⟨w.heap.size + 1, 0, none⟩)] ∧
    ∃ k : Nat, a.tmps.getD 11 undef = .int .i64 k ∧ k ≤ 2 ∧ W.cell? ⟨w.heap.size, 0, none⟩ = some (.int .i64 t) ∧ W.cell? ⟨w.heap.size, 1, none⟩ = some (.int .i64 wn) ∧ NoG W (some ⟨w.heap.size + 1, 0, none⟩) ∧ Below w.heap.size w W ∧ w.heap.size + 2 ≤ W.heap.size
set_option maxHeartbeats 8000000 in
set_option maxRecDepth 100000 in
theorem gnone_walk (t wn : Int) (ht : isI t) (w : World) : Calls Tryz.prog 5 #[.agg #[.int .i64 t, .int .i64 wn]] w fun e w' => e = .returned (.bool true) ∧ Below w.heap.size w w' := by
  have q1 : ∀ W, (binOp .neq 65 (.agg #[.int .i64 0, .int .i64 0, .bool false, .int .i64 0]) (.agg #[.int .i64 0, .int .i64 0, .bool false, .int .i64 0])).run Tryz.prog W = .ok (.bool false) W := fun W => by rw [Evs.neE]; rfl
  have q2 := fun x y xs ys W => Evs.neGE x y xs ys W
  have q3 := fun a b W => gx0 a b W
  have q4 := fun a b W => gx1 a b W
  have h0 := below_new w (.cells #[.int .i64 t, .int .i64 wn] 68)
  have hz1 : (w.alloc (.cells #[.int .i64 t, .int .i64 wn] 68)).heap.size = w.heap.size + 1 := by simp
  have h1 := below_new (w.alloc (.cells #[.int .i64 t, .int .i64 wn] 68)) (.cells #[.pointer none, .pointer none] 73)
  have b0 := blk_alloc (blk_new w (.cells #[.int .i64 t, .int .i64 wn] 68)) (.cells #[.pointer none, .pointer none] 73)
  have b1 := blk_new (w.alloc (.cells #[.int .i64 t, .int .i64 wn] 68)) (.cells #[.pointer none, .pointer none] 73)
  rw [hz1] at b1
  have c0 := blk_cell b0 0 (by simp)
  have c1 := blk_cell b0 1 (by simp)
  simp only [List.getElem_toArray, List.getElem_cons_zero, List.getElem_cons_succ] at c0 c1
  have HN := Lib.hid (show NoG _ (some ⟨w.heap.size + 1, 0, none⟩) from .inr ⟨_, rfl, b1⟩)
  have HB := Lib.hid (h0.trans (h1.mono (by omega)))
  have HZ := Lib.hid (show w.heap.size + 2 ≤ ((w.alloc (.cells #[.int .i64 t, .int .i64 wn] 68)).alloc (.cells #[.pointer none, .pointer none] 73)).heap.size by simp)
  clear h0 h1 b0 b1 hz1
  go_enter Tryz.func5, Tryz.ntmps5
  go_wp2_with fail
  refine wp_loop (GnJ t wn w) (fun a' _ => 2 - (intOf (a'.tmps.getD 11 undef)).toNat) ?_ ?_
  · exact ⟨rfl, rfl, rfl, rfl, 0, rfl, by omega, c0, c1, HN.out, HB.out, HZ.out⟩
  · clear HN HB c0 c1 HZ
    rintro a' W ⟨hsz, hdf, s1, s10, k, s11, hk, c0, c1, hn, hb, hz⟩
    obtain ⟨u, rfl, hu⟩ := frame61 hsz hdf
    rw [hu] at s1 s10 s11
    simp only [s1, s10, s11]
    clear hsz hdf s1 s10 s11 hu
    have HN := Lib.hid hn
    have HB := Lib.hid hb
    have HZ := Lib.hid hz
    clear hn hb hz
    by_cases hlt : k < 2
    · rcases (show k = 0 ∨ k = 1 by omega) with rfl | rfl
      · have HNq : Hid (NoG W none) := Lib.hid (.inl rfl)
        go_wp2_with fail
        have hbn := below_new W (.cells #[.int .i64 t] 3)
        have hpk := blk_new W (.cells #[.int .i64 t] 3)
        have c0 := keep1 hbn c0
        have c1 := keep1 hbn c1
        have HNq := Lib.hid (HNq.out.same hbn)
        have HN := Lib.hid (HN.out.same hbn)
        have HB := Lib.hid (HB.out.trans ((hbn).mono HB.out.size))
        have HZ := Lib.hid (Nat.le_trans HZ.out (hbn).size)
        have hR := run_any (.pointer none) _ _ _ [] (W.alloc (.cells #[.int .i64 t] 3)) (gi_none none (W.alloc (.cells #[.int .i64 t] 3)).heap.size (fun g h => by have := HZ.out; cases h <;> omega)) [] none 0 (by simp) (fun W hW => Sl.nil _ _ _) [t] (some ⟨W.heap.size, 0, none⟩) 1 (by simp) (fun u hu => by have e : u = t := (by simpa using hu); rw [e]; exact ht) (fun W hW => sl_of (xs := [t].flatMap decI) hpk hW (by simp) (by simp)) () ⟨HNq.out, Nat.le_refl _⟩
        refine hR.mono ?_
        rintro e w3 ⟨B, cb, rfl, hown, _, hm3⟩
        have hb3 : Below (W.alloc (.cells #[.int .i64 t] 3)).heap.size (W.alloc (.cells #[.int .i64 t] 3)) w3 := ⟨hm3.os, hm3.tape, hm3.output, hm3.size, fun k hk => hm3.block k hk (by simp)⟩
        obtain ⟨B2, cb2, hBc, _, _, hsl⟩ := own_slice hown
        cases hBc
        have HSL := Lib.hid (show Sl w3 w3.heap.size B (([(0, 0, 0)] : List Ev3).flatMap decEv) from hsl)
        have c0 := keep1 hb3 c0
        have c1 := keep1 hb3 c1
        have HNq := Lib.hid (HNq.out.same hb3)
        have HN := Lib.hid (HN.out.same hb3)
        have HB := Lib.hid (HB.out.trans ((hb3).mono HB.out.size))
        have HZ := Lib.hid (Nat.le_trans HZ.out (hb3).size)
        clear hbn hpk hR hown hsl hb3 hm3
        go_wp2_with fail
        refine (ndo none _ HNq.out t wn).mono ?_
        rintro e w4 ⟨rfl, hb4⟩
        have HSL := Lib.hid (HSL.out.step hb4)
        have c0 := keep1 hb4 c0
        have c1 := keep1 hb4 c1
        have HNq := Lib.hid (HNq.out.same hb4)
        have HN := Lib.hid (HN.out.same hb4)
        have HB := Lib.hid (HB.out.trans ((hb4).mono HB.out.size))
        have HZ := Lib.hid (Nat.le_trans HZ.out (hb4).size)
        clear hb4
        simp only [gev]
        go_wp2_with fail
        refine (nthreads none _ HNq.out).mono ?_
        rintro e wx ⟨rfl, hwx⟩
        obtain rfl := hwx.symm
        go_wp2_with fail
        refine (nwords none _ HNq.out).mono ?_
        rintro e w5 ⟨rfl, hb5⟩
        have HSL := Lib.hid (HSL.out.step hb5)
        have c0 := keep1 hb5 c0
        have c1 := keep1 hb5 c1
        have HNq := Lib.hid (HNq.out.same hb5)
        have HN := Lib.hid (HN.out.same hb5)
        have HB := Lib.hid (HB.out.trans ((hb5).mono HB.out.size))
        have HZ := Lib.hid (Nat.le_trans HZ.out (hb5).size)
        clear hb5
        obtain ⟨b, off, rfl, hbb, hcell⟩ := HSL.out.at_ (by decide)
        have e0 : w5.cell? ⟨b, off + 0, none⟩ = some (Value.int .i64 0) := hcell 0 (by decide)
        have e1 : w5.cell? ⟨b, off + 1, none⟩ = some (Value.int .i64 0) := hcell 1 (by decide)
        have e2 : w5.cell? ⟨b, off + 2, none⟩ = some (Value.bool false) := hcell 2 (by decide)
        have e3 : w5.cell? ⟨b, off + 3, none⟩ = some (Value.int .i64 0) := hcell 3 (by decide)
        rw [Nat.add_zero] at e0
        clear hcell
        go_wp2_with fail
        refine (nops none _ HNq.out).mono ?_
        rintro e wx ⟨rfl, hwx⟩
        obtain rfl := hwx.symm
        go_wp2_with fail
        refine (nstate none _ HNq.out t).mono ?_
        rintro e wx ⟨rfl, hwx⟩
        obtain rfl := hwx.symm
        go_wp2_with fail
        exact ⟨⟨rfl, rfl, rfl, rfl, 1, rfl, by omega, c0, c1, HN.out, HB.out, HZ.out⟩, by simp [intOf]⟩
      · have HNq := HN
        go_wp2_with fail
        have hbn := below_new W (.cells #[.int .i64 t] 3)
        have hpk := blk_new W (.cells #[.int .i64 t] 3)
        have c0 := keep1 hbn c0
        have c1 := keep1 hbn c1
        have HNq := Lib.hid (HNq.out.same hbn)
        have HN := Lib.hid (HN.out.same hbn)
        have HB := Lib.hid (HB.out.trans ((hbn).mono HB.out.size))
        have HZ := Lib.hid (Nat.le_trans HZ.out (hbn).size)
        have hR := run_any (.pointer (some ⟨w.heap.size + 1, 0, none⟩)) _ _ _ [] (W.alloc (.cells #[.int .i64 t] 3)) (gi_none (some ⟨w.heap.size + 1, 0, none⟩) (W.alloc (.cells #[.int .i64 t] 3)).heap.size (fun g h => by have := HZ.out; cases h <;> omega)) [] none 0 (by simp) (fun W hW => Sl.nil _ _ _) [t] (some ⟨W.heap.size, 0, none⟩) 1 (by simp) (fun u hu => by have e : u = t := (by simpa using hu); rw [e]; exact ht) (fun W hW => sl_of (xs := [t].flatMap decI) hpk hW (by simp) (by simp)) () ⟨HNq.out, Nat.le_refl _⟩
        refine hR.mono ?_
        rintro e w3 ⟨B, cb, rfl, hown, _, hm3⟩
        have hb3 : Below (W.alloc (.cells #[.int .i64 t] 3)).heap.size (W.alloc (.cells #[.int .i64 t] 3)) w3 := ⟨hm3.os, hm3.tape, hm3.output, hm3.size, fun k hk => hm3.block k hk (by simp)⟩
        obtain ⟨B2, cb2, hBc, _, _, hsl⟩ := own_slice hown
        cases hBc
        have HSL := Lib.hid (show Sl w3 w3.heap.size B (([(0, 0, 0)] : List Ev3).flatMap decEv) from hsl)
        have c0 := keep1 hb3 c0
        have c1 := keep1 hb3 c1
        have HNq := Lib.hid (HNq.out.same hb3)
        have HN := Lib.hid (HN.out.same hb3)
        have HB := Lib.hid (HB.out.trans ((hb3).mono HB.out.size))
        have HZ := Lib.hid (Nat.le_trans HZ.out (hb3).size)
        clear hbn hpk hR hown hsl hb3 hm3
        go_wp2_with fail
        refine (ndo (some ⟨w.heap.size + 1, 0, none⟩) _ HNq.out t wn).mono ?_
        rintro e w4 ⟨rfl, hb4⟩
        have HSL := Lib.hid (HSL.out.step hb4)
        have c0 := keep1 hb4 c0
        have c1 := keep1 hb4 c1
        have HNq := Lib.hid (HNq.out.same hb4)
        have HN := Lib.hid (HN.out.same hb4)
        have HB := Lib.hid (HB.out.trans ((hb4).mono HB.out.size))
        have HZ := Lib.hid (Nat.le_trans HZ.out (hb4).size)
        clear hb4
        simp only [gev]
        go_wp2_with fail
        refine (nthreads (some ⟨w.heap.size + 1, 0, none⟩) _ HNq.out).mono ?_
        rintro e wx ⟨rfl, hwx⟩
        obtain rfl := hwx.symm
        go_wp2_with fail
        refine (nwords (some ⟨w.heap.size + 1, 0, none⟩) _ HNq.out).mono ?_
        rintro e w5 ⟨rfl, hb5⟩
        have HSL := Lib.hid (HSL.out.step hb5)
        have c0 := keep1 hb5 c0
        have c1 := keep1 hb5 c1
        have HNq := Lib.hid (HNq.out.same hb5)
        have HN := Lib.hid (HN.out.same hb5)
        have HB := Lib.hid (HB.out.trans ((hb5).mono HB.out.size))
        have HZ := Lib.hid (Nat.le_trans HZ.out (hb5).size)
        clear hb5
        obtain ⟨b, off, rfl, hbb, hcell⟩ := HSL.out.at_ (by decide)
        have e0 : w5.cell? ⟨b, off + 0, none⟩ = some (Value.int .i64 0) := hcell 0 (by decide)
        have e1 : w5.cell? ⟨b, off + 1, none⟩ = some (Value.int .i64 0) := hcell 1 (by decide)
        have e2 : w5.cell? ⟨b, off + 2, none⟩ = some (Value.bool false) := hcell 2 (by decide)
        have e3 : w5.cell? ⟨b, off + 3, none⟩ = some (Value.int .i64 0) := hcell 3 (by decide)
        rw [Nat.add_zero] at e0
        clear hcell
        go_wp2_with fail
        refine (nops (some ⟨w.heap.size + 1, 0, none⟩) _ HNq.out).mono ?_
        rintro e wx ⟨rfl, hwx⟩
        obtain rfl := hwx.symm
        go_wp2_with fail
        refine (nstate (some ⟨w.heap.size + 1, 0, none⟩) _ HNq.out t).mono ?_
        rintro e wx ⟨rfl, hwx⟩
        obtain rfl := hwx.symm
        go_wp2_with fail
        exact ⟨⟨rfl, rfl, rfl, rfl, 2, rfl, by omega, c0, c1, HN.out, HB.out, HZ.out⟩, by simp [intOf]⟩
    · obtain rfl : k = 2 := by omega
      clear c0 c1
      go_wp2_with fail
      refine (awake21 _).mono ?_
      rintro e w9 ⟨rfl, hb9⟩
      go_wp2_with fail
      go_ret
      exact ⟨rfl, HB.out.trans (hb9.mono HB.out.size)⟩
structure Pick where
  th : Int
  want : Int
def decPk (p : Pick) : List Value := [.int .i64 p.th, .int .i64 p.want]
theorem reads_pk {H : Type} {enc : TypeId × Value → H} : Reads enc Tryz.prog 68 decPk (fun e => isI64 e.th ∧ isI64 e.want) :=
  (reads_s2 (d0 := Value.int .i64) (d1 := Value.int .i64) Tryz.underlying68 (by kernel_rfl) (by kernel_rfl) (reads_i64 Tryz.underlying3) (reads_i64 Tryz.underlying3)).map
    (fun p => ⟨p.1, p.2⟩) (fun _ => rfl) (fun _ h => h)
theorem none_law (w : World) (x : Pick) (h : isI64 x.th ∧ isI64 x.want) : Calls Tryz.prog 5 #[.agg (decPk x).toArray] w fun e w' => e = .returned (.bool true) ∧ Below w.heap.size w w' := gnone_walk x.th x.want (WalkArith.wf_i64 h.1) w
end Go.Proofs.YthffhhgaeolpgaaGreat.Ga

