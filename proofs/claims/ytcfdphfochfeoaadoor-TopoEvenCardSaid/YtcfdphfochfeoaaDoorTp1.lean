/- Walks of layer 6: tree, leaf, deep, Has. -/
import Derived.Test.YtcfdphfochfeoaaDoorTpP
import Derived.Test.YtcfdphfochfeoaaDoorDe5
namespace Go.Proofs.YtcfdphfochfeoaaDoor.Tp
open Go.RowKit Go.Proofs.YtcfdphfochfeoaaDoor.Li Go.Proofs.YtcfdphfochfeoaaDoor.De Go.Proofs.YtcfdphfochfeoaaDoor.Ara

theorem sl_g {w : World} {Bd : Nat} {A : Option Addr} {ns : List Int} (h : Sl w Bd A (ns.flatMap decI)) (hk : 0 < ns.length) : ∃ b off, A = some ⟨b, off, none⟩ ∧ b < Bd ∧ ∀ j, j < ns.length → w.cell? ⟨b, off + j, none⟩ = some (.int .i64 (ns.getD j 0)) := by
  obtain ⟨b, off, h1, h2, h3⟩ := sl_int h hk
  refine ⟨b, off, h1, h2, fun j hj => ?_⟩
  rw [h3 j hj, List.getD_eq_getElem?_getD, List.getElem?_eq_getElem hj]
  rfl
def okV (p : List Int) (v : Nat) : Prop := if v = 0 then p.getD v 0 = -1 else 0 ≤ p.getD v 0 ∧ p.getD v 0 < (v : Int)
theorem okV_zero {p : List Int} {v : Nat} (h : v = 0) : okV p v ↔ p.getD v 0 = -1 := by unfold okV; rw [if_pos h]
theorem okV_pos {p : List Int} {v : Nat} (h : ¬ v = 0) : okV p v ↔ 0 ≤ p.getD v 0 ∧ p.getD v 0 < (v : Int) := by unfold okV; rw [if_neg h]
theorem tree_iff (p : List Int) : treeP p ↔ ∀ v, v < p.length → okV p v := Iff.rfl
set_option maxRecDepth 100000 in
theorem tree_any (p : List Int) (A : Option Addr) (cap : Nat) (w : World) (hm : p.length ≤ 1000) (hs : Sl w w.heap.size A (p.flatMap decI)) :
    Calls Tryd.prog 97 #[.slice A p.length cap] w fun e w' => e = .returned (.bool (decide (treeP p))) ∧ w' = w := by
  have HF := Lib.hid (fun j hj (h : ¬ okV p j) => (decide_eq_false (fun ht => h ((tree_iff p).1 ht j hj)) : decide (treeP p) = false))
  have HT := Lib.hid (fun h : ∀ v, v < p.length → okV p v => (decide_eq_true ((tree_iff p).2 h) : decide (treeP p) = true))
  go_enter Tryd.func97, Tryd.ntmps97
  go_wp2_with fail
  go_loopw [7] (fun i wr => ∃ j : Nat, j ≤ p.length ∧ i = .int .i64 (j : Int) ∧ (∀ v, v < j → okV p v) ∧ wr = w) (fun i _ => p.length - (intOf i).toNat)
  case atStart => exact ⟨0, Nat.zero_le _, rfl, fun v hv => absurd hv (Nat.not_lt_zero v), rfl⟩
  case round =>
    obtain ⟨j, hj, rfl, hgood, rfl⟩ := hrel
    by_cases hlt : j < p.length
    · obtain ⟨b, off, rfl, hbb, hcell⟩ := sl_g hs (by omega)
      have h0 := hcell j hlt
      have i1 : (j : Int) < (p.length : Int) := by omega
      have HBAD := Lib.hid (HF.out j hlt)
      have HGOOD := Lib.hid (show okV p j → ∀ v, v < j + 1 → okV p v from fun h v hv => by
        by_cases e : v = j
        · subst e; exact h
        · exact hgood v (by omega))
      clear hcell HF HT hgood hs
      by_cases z : j = 0
      · rw [okV_zero z] at HBAD HGOOD
        generalize p.getD j 0 = x at *
        have q0 : ((j : Int) == 0) = true := ibeq (by omega)
        have q2 : ¬ (0 : Int) < (j : Int) := by omega
        clear z
        by_cases h1 : x = -1
        · have q1 := ibne_no h1
          have HN := Lib.hid (HGOOD.out h1)
          clear HBAD HGOOD
          go_wp2_with fail
          go_roundw
          case rel => exact ⟨j + 1, by omega, by go_num, HN.out, trivial⟩
          case measure => simp [intOf]; omega
        · have q1 := ibne h1
          have HN := Lib.hid (HBAD.out h1)
          clear HBAD HGOOD
          go_wp2_with fail
          go_ret
          exact ⟨by rw [HN.out]; rfl, rfl⟩
      · rw [okV_pos z] at HBAD HGOOD
        generalize p.getD j 0 = x at *
        have q0 : ((j : Int) == 0) = false := ibeq_no (by omega)
        have q2 : (0 : Int) < (j : Int) := by omega
        clear z
        by_cases h1 : x < 0
        · have h2 : ¬ (0 ≤ x ∧ x < (j : Int)) := by omega
          have HN := Lib.hid (HBAD.out h2)
          clear HBAD HGOOD
          go_wp2_with fail
          go_ret
          exact ⟨by rw [HN.out]; rfl, rfl⟩
        · by_cases h3 : (j : Int) ≤ x
          · have h2 : ¬ (0 ≤ x ∧ x < (j : Int)) := by omega
            have HN := Lib.hid (HBAD.out h2)
            clear HBAD HGOOD
            go_wp2_with fail
            go_ret
            exact ⟨by rw [HN.out]; rfl, rfl⟩
          · have h2 : 0 ≤ x ∧ x < (j : Int) := by omega
            have HN := Lib.hid (HGOOD.out h2)
            clear HBAD HGOOD
            go_wp2_with fail
            go_roundw
            case rel => exact ⟨j + 1, by omega, by go_num, HN.out, trivial⟩
            case measure => simp [intOf]; omega
    · obtain rfl : j = p.length := by omega
      have HN := Lib.hid (HT.out hgood)
      clear HT HF hgood hs
      go_wp2_with fail
      go_ret
      exact ⟨by rw [HN.out]; rfl, rfl⟩
set_option maxRecDepth 100000 in
theorem has_any (ns : List Int) (A : Option Addr) (cap : Nat) (x : Int) (w : World) (hm : ns.length ≤ 9223372036854775807) (hs : Sl w w.heap.size A (ns.flatMap decI)) :
    Calls Tryd.prog 77 #[.slice A ns.length cap, .int .i64 x] w fun e w' => e = .returned (.bool (decide (x ∈ ns))) ∧ w' = w := by
  have HT := Lib.hid (fun j (hj : j < ns.length) (h : ns.getD j 0 = x) => (decide_eq_true (by rw [← h]; exact getD_mem hj) : decide (x ∈ ns) = true))
  have HF := Lib.hid (fun h : ∀ v, v < ns.length → ns.getD v 0 ≠ x => (decide_eq_false (fun hx => by
    obtain ⟨v, hv, e⟩ := mem_getD hx
    exact h v hv e) : decide (x ∈ ns) = false))
  go_enter Tryd.func77, Tryd.ntmps77
  go_wp2_with fail
  go_loopw [5] (fun i wr => ∃ j : Nat, j ≤ ns.length ∧ i = .int .i64 (j : Int) ∧ (∀ v, v < j → ns.getD v 0 ≠ x) ∧ wr = w) (fun i _ => ns.length - (intOf i).toNat)
  case atStart => exact ⟨0, Nat.zero_le _, rfl, fun v hv => absurd hv (Nat.not_lt_zero v), rfl⟩
  case round =>
    obtain ⟨j, hj, rfl, hgood, rfl⟩ := hrel
    by_cases hlt : j < ns.length
    · obtain ⟨b, off, rfl, hbb, hcell⟩ := sl_g hs (by omega)
      have h0 := hcell j hlt
      have i1 : (j : Int) < (ns.length : Int) := by omega
      have HT := Lib.hid (HT.out j hlt)
      have HGOOD := Lib.hid (show ns.getD j 0 ≠ x → ∀ v, v < j + 1 → ns.getD v 0 ≠ x from fun h v hv => by
        by_cases e : v = j
        · subst e; exact h
        · exact hgood v (by omega))
      clear hcell HF hgood hs
      generalize ns.getD j 0 = y at *
      by_cases h1 : y = x
      · have q := ibeq h1
        have HN := Lib.hid (HT.out h1)
        clear h1
        go_wp2_with fail
        go_ret
        exact ⟨by rw [HN.out]; rfl, rfl⟩
      · have q := ibeq_no h1
        have HN := Lib.hid (HGOOD.out h1)
        clear h1
        go_wp2_with fail
        go_roundw
        case rel => exact ⟨j + 1, by omega, by go_num, HN.out, trivial⟩
        case measure => simp [intOf]; omega
    · obtain rfl : j = ns.length := by omega
      have HN := Lib.hid (HF.out hgood)
      clear HT HF hgood hs
      have i1 : ¬ (ns.length : Int) < (ns.length : Int) := by omega
      go_wp2_with fail
      go_ret
      exact ⟨by rw [HN.out]; rfl, rfl⟩
theorem leaf_eq (p : List Int) (v : Int) : decide (leafP p v) = (decide (0 ≤ v) && decide (v < (p.length : Int)) && !decide (v ∈ p)) := by
  unfold leafP
  by_cases h1 : 0 ≤ v <;> by_cases h2 : v < (p.length : Int) <;> by_cases h3 : v ∈ p <;> simp [h1, h2, h3]
set_option maxRecDepth 100000 in
theorem leaf_any (p : List Int) (A : Option Addr) (cap : Nat) (v : Int) (w : World) (hm : p.length ≤ 1000) (hs : Sl w w.heap.size A (p.flatMap decI)) :
    Calls Tryd.prog 103 #[.slice A p.length cap, .int .i64 v] w fun e w' => e = .returned (.bool (decide (leafP p v))) ∧ w' = w := by
  have HH := Lib.hid (fun W (h : Sl W W.heap.size A (p.flatMap decI)) => has_any p A cap v W (by omega) h)
  have HE := Lib.hid (leaf_eq p v)
  by_cases h0 : 0 ≤ v
  · by_cases h1 : v < (p.length : Int)
    · have HN := Lib.hid (show decide (leafP p v) = !decide (v ∈ p) by rw [HE.out, decide_eq_true h0, decide_eq_true h1]; rfl)
      generalize decide (v ∈ p) = b at *
      go_enter Tryd.func103, Tryd.ntmps103
      go_wp2_with fail
      refine (HH.out _ hs).mono ?_
      rintro e wx ⟨rfl, hwx⟩
      obtain rfl := hwx.symm
      go_wp2_with fail
      go_ret
      exact ⟨by rw [HN.out]; rfl, rfl⟩
    · have HN := Lib.hid (show decide (leafP p v) = false by rw [HE.out, decide_eq_false h1]; simp)
      go_enter Tryd.func103, Tryd.ntmps103
      go_wp2_with fail
      go_ret
      exact ⟨by rw [HN.out]; rfl, rfl⟩
  · have HN := Lib.hid (show decide (leafP p v) = false by rw [HE.out, decide_eq_false h0]; simp)
    go_enter Tryd.func103, Tryd.ntmps103
    go_wp2_with fail
    go_ret
    exact ⟨by rw [HN.out]; rfl, rfl⟩
theorem deepF_step (p : List Int) (k : Nat) (v : Int) (h : 0 ≤ v) (h2 : v < (p.length : Int)) : deepF p (k + 1) v = deepF p k (p.getD v.toNat 0) + 1 := by
  conv => lhs; unfold deepF
  rw [if_pos ⟨h, h2⟩]
set_option maxRecDepth 100000 in
theorem deep_any (p : List Int) (A : Option Addr) (cap : Nat) (v0 : Int) (w : World) (hm : p.length ≤ 1000) (hs : Sl w w.heap.size A (p.flatMap decI)) :
    Calls Tryd.prog 104 #[.slice A p.length cap, .int .i64 v0] w fun e w' => e = .returned (.int .i64 (dep p v0 : Int)) ∧ w' = w := by
  obtain ⟨tgt, ht⟩ : ∃ t, dep p v0 = t := ⟨_, rfl⟩
  rw [ht]
  have HT := Lib.hid ht
  clear ht
  go_enter Tryd.func104, Tryd.ntmps104
  go_wp2_with fail
  go_loopw [1, 5, 6] (fun x c i wr => ∃ (j : Nat) (v : Int) (n : Nat), j ≤ p.length ∧ x = .int .i64 v ∧ c = .int .i64 (n : Int) ∧ i = .int .i64 (j : Int) ∧ n ≤ j ∧ n + deepF p (p.length - j) v = tgt ∧ wr = w) (fun _ _ i _ => p.length - (intOf i).toNat)
  case atStart => exact ⟨0, v0, 0, Nat.zero_le _, rfl, rfl, rfl, Nat.le_refl _, by rw [← HT.out]; show 0 + deepF p (p.length - 0) v0 = _; rw [Nat.zero_add]; rfl, rfl⟩
  case round =>
    obtain ⟨j, v, n, hj, rfl, rfl, rfl, hnj, hrun, rfl⟩ := hrel
    by_cases hlt : j < p.length
    · have i1 : (j : Int) < (p.length : Int) := by omega
      by_cases h0 : 0 ≤ v
      · by_cases h1 : v < (p.length : Int)
        · obtain ⟨u, rfl⟩ := Int.eq_ofNat_of_zero_le h0
          obtain ⟨b, off, rfl, hbb, hcell⟩ := sl_g hs (by omega)
          have c0 := hcell u (by omega)
          rw [show p.length - j = (p.length - (j + 1)) + 1 by omega, deepF_step p _ _ h0 h1, Int.toNat_natCast] at hrun
          have HN := Lib.hid hrun
          clear hcell hrun
          generalize p.getD u 0 = y at *
          go_wp2_with fail
          go_roundw
          case rel => exact ⟨j + 1, y, n + 1, by omega, rfl, by go_num, by go_num, by omega, by have := HN.out; omega, trivial⟩
          case measure => simp [intOf]; omega
        · rw [deepF_no p _ (by omega)] at hrun
          have HN := Lib.hid hrun
          clear hrun
          go_wp2_with fail
          go_ret
          exact ⟨by rw [← HN.out]; rfl, rfl⟩
      · rw [deepF_no p _ (by omega)] at hrun
        have HN := Lib.hid hrun
        clear hrun
        go_wp2_with fail
        go_ret
        exact ⟨by rw [← HN.out]; rfl, rfl⟩
    · obtain rfl : j = p.length := by omega
      rw [Nat.sub_self] at hrun
      have HN := Lib.hid hrun
      clear hrun
      have i1 : ¬ (p.length : Int) < (p.length : Int) := by omega
      go_wp2_with fail
      go_ret
      exact ⟨by rw [← HN.out]; rfl, rfl⟩
end Go.Proofs.YtcfdphfochfeoaaDoor.Tp
