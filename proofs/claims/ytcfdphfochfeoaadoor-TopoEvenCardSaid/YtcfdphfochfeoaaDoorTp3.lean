/- Walks of layer 6: the closures, IndexFunc, ContainsFunc, Equal, Same. -/
import Derived.Test.YtcfdphfochfeoaaDoorTp2
import Derived.Test.YtcfdphfochfeoaaDoorShelf
import Derived.Deep.Cut
import Derived.Deep.CutBlock
namespace Go.Proofs.YtcfdphfochfeoaaDoor.Tp
open Go.RowKit Go.Proofs.YtcfdphfochfeoaaDoor.Li Go.Proofs.YtcfdphfochfeoaaDoor.De Go.Proofs.YtcfdphfochfeoaaDoor.Ara

theorem even1_any (x : Int) (w : World) : Calls Tryd.prog 106 #[.int .i64 x] w fun e w' => e = .returned (.bool (decide (x < 1))) ∧ w' = w := by
  by_cases h : x < 1
  · have HN := Lib.hid (decide_eq_true h)
    go_enter Tryd.func106, Tryd.ntmps106
    go_wp2_with fail
    go_ret
    exact ⟨by rw [HN.out]; rfl, rfl⟩
  · have HN := Lib.hid (decide_eq_false h)
    go_enter Tryd.func106, Tryd.ntmps106
    go_wp2_with fail
    go_ret
    exact ⟨by rw [HN.out]; rfl, rfl⟩
theorem cont_dec (E : List Int) (x : Int) : E.contains x = decide (x ∈ E) := by
  by_cases h : x ∈ E <;> simp [h]
theorem chk1_any (E : List Int) (g b off c : Nat) (x : Int) (w : World) (hm : E.length ≤ 1000) (hg : w.cell? ⟨g, 0, none⟩ = some (.slice (some ⟨b, off, none⟩) E.length c))
    (hc : ∀ j, j < E.length → w.cell? ⟨b, off + j, none⟩ = some (.int .i64 (E.getD j 0))) :
    Calls Tryd.prog 101 #[.int .i64 x, .pointer (some ⟨g, 0, none⟩)] w fun e w' => e = .returned (.bool (!decide (x ∈ E))) ∧ w' = w := by
  have hC := Tryd.slices_Contains_int b off E.length c E x w (Nat.le_refl _) (by omega) hc
  rw [List.take_length, cont_dec] at hC
  have HC := Lib.hid hC
  clear hC hc
  generalize decide (x ∈ E) = r at *
  go_enter Tryd.func101, Tryd.ntmps101
  go_wp2_with fail
  refine (HC.out).mono ?_
  rintro e wx ⟨rfl, hwx⟩
  obtain rfl := hwx.symm
  go_wp2_with fail
  go_ret
  exact ⟨rfl, rfl⟩
def anyF (f : Int → Bool) (t : List Int) : Bool := t.any f
theorem any_yes {f : Int → Bool} {t : List Int} {j : Nat} (hj : j < t.length) (h : f (t.getD j 0) = true) : anyF f t = true := List.any_eq_true.2 ⟨_, getD_mem hj, h⟩
theorem any_no {f : Int → Bool} {t : List Int} (h : ∀ v, v < t.length → f (t.getD v 0) = false) : anyF f t = false := by
  unfold anyF
  rw [List.any_eq_false]
  intro x hx
  obtain ⟨v, hv, e⟩ := mem_getD hx
  rw [← e, h v hv]
  simp
def nin (E : List Int) (x : Int) : Bool := !decide (x ∈ E)
def lt1 (x : Int) : Bool := decide (x < 1)
set_option maxRecDepth 100000 in
theorem ixC_any (E t : List Int) (A : Option Addr) (cap g b off c : Nat) (w : World) (hm : E.length ≤ 1000) (htl : t.length ≤ 1000) (hs : Sl w w.heap.size A (t.flatMap decI)) (hg : w.cell? ⟨g, 0, none⟩ = some (.slice (some ⟨b, off, none⟩) E.length c))
    (hc : ∀ j, j < E.length → w.cell? ⟨b, off + j, none⟩ = some (.int .i64 (E.getD j 0))) :
    Calls Tryd.prog 118 #[.slice A t.length cap, .func (.func 101) #[] #[.pointer (some ⟨g, 0, none⟩)]] w fun e w' => (∃ i : Int, e = .returned (.int .i64 i) ∧ decide (0 ≤ i) = anyF (nin E) t) ∧ w' = w := by
  have HCL := Lib.hid (fun x => chk1_any E g b off c x w hm hg hc)
  obtain ⟨f, hf0⟩ : ∃ f, nin E = f := ⟨_, rfl⟩
  have HCL : Hid (∀ x, Calls Tryd.prog 101 #[.int .i64 x, .pointer (some ⟨g, 0, none⟩)] w fun e w' => e = .returned (.bool (f x)) ∧ w' = w) := Lib.hid (fun x => by rw [← hf0]; exact HCL.out x)
  rw [hf0]
  clear hf0 hg hc
  have HT := Lib.hid (fun j (hj : j < t.length) (h : f (t.getD j 0) = true) => any_yes hj h)
  have HF := Lib.hid (fun h : ∀ v, v < t.length → f (t.getD v 0) = false => any_no h)
  go_enter Tryd.func118, Tryd.ntmps118
  go_wp2_with fail
  go_loopw [8] (fun i wr => ∃ j : Nat, j ≤ t.length ∧ i = .int .i64 (j : Int) ∧ (∀ v, v < j → f (t.getD v 0) = false) ∧ wr = w) (fun i _ => t.length - (intOf i).toNat)
  case atStart => exact ⟨0, Nat.zero_le _, rfl, fun v hv => absurd hv (Nat.not_lt_zero v), rfl⟩
  case round =>
    obtain ⟨j, hj, rfl, hgood, rfl⟩ := hrel
    by_cases hlt : j < t.length
    · obtain ⟨b', off', rfl, hbb, hcell⟩ := sl_g hs (by omega)
      have h0 := hcell j hlt
      have i1 : (j : Int) < (t.length : Int) := by omega
      have HY := Lib.hid (HT.out j hlt)
      have HGOOD := Lib.hid (show f (t.getD j 0) = false → ∀ v, v < j + 1 → f (t.getD v 0) = false from fun h v hv => by
        by_cases e : v = j
        · subst e; exact h
        · exact hgood v (by omega))
      have hC := HCL.out (t.getD j 0)
      clear hcell HT HF hgood hs HCL
      generalize t.getD j 0 = y at *
      cases hf : f y with
      | true =>
        rw [hf] at hC
        have HC := Lib.hid hC
        have HN := Lib.hid (HY.out hf)
        clear hf hC HY HGOOD
        go_wp2_with fail
        refine (HC.out).mono ?_
        rintro e wx ⟨rfl, hwx⟩
        obtain rfl := hwx.symm
        go_wp2_with fail
        go_ret
        exact ⟨⟨(j : Int), rfl, by rw [HN.out]; exact decide_eq_true (by omega)⟩, rfl⟩
      | false =>
        rw [hf] at hC
        have HC := Lib.hid hC
        have HN := Lib.hid (HGOOD.out hf)
        clear hf hC HY HGOOD
        go_wp2_with fail
        refine (HC.out).mono ?_
        rintro e wx ⟨rfl, hwx⟩
        obtain rfl := hwx.symm
        go_wp2_with fail
        go_roundw
        case rel => exact ⟨j + 1, by omega, by go_num, HN.out, trivial⟩
        case measure => simp [intOf]; omega
    · obtain rfl : j = t.length := by omega
      have HN := Lib.hid (HF.out hgood)
      have i1 : ¬ (t.length : Int) < (t.length : Int) := by omega
      clear HT HF hgood hs HCL
      go_wp2_with fail
      go_ret
      exact ⟨⟨-1, rfl, by rw [HN.out]; rfl⟩, rfl⟩
set_option maxRecDepth 100000 in
theorem ixE_any (t : List Int) (A : Option Addr) (cap : Nat) (w : World) (htl : t.length ≤ 1000) (hs : Sl w w.heap.size A (t.flatMap decI)) :
    Calls Tryd.prog 118 #[.slice A t.length cap, .func (.func 106) #[] #[]] w fun e w' => (∃ i : Int, e = .returned (.int .i64 i) ∧ decide (0 ≤ i) = anyF lt1 t) ∧ w' = w := by
  obtain ⟨f, hf0⟩ : ∃ f, lt1 = f := ⟨_, rfl⟩
  have HCL : Hid (∀ x, Calls Tryd.prog 106 #[.int .i64 x] w fun e w' => e = .returned (.bool (f x)) ∧ w' = w) := Lib.hid (fun x => by rw [← hf0]; exact even1_any x w)
  rw [hf0]
  clear hf0
  have HT := Lib.hid (fun j (hj : j < t.length) (h : f (t.getD j 0) = true) => any_yes hj h)
  have HF := Lib.hid (fun h : ∀ v, v < t.length → f (t.getD v 0) = false => any_no h)
  go_enter Tryd.func118, Tryd.ntmps118
  go_wp2_with fail
  go_loopw [8] (fun i wr => ∃ j : Nat, j ≤ t.length ∧ i = .int .i64 (j : Int) ∧ (∀ v, v < j → f (t.getD v 0) = false) ∧ wr = w) (fun i _ => t.length - (intOf i).toNat)
  case atStart => exact ⟨0, Nat.zero_le _, rfl, fun v hv => absurd hv (Nat.not_lt_zero v), rfl⟩
  case round =>
    obtain ⟨j, hj, rfl, hgood, rfl⟩ := hrel
    by_cases hlt : j < t.length
    · obtain ⟨b', off', rfl, hbb, hcell⟩ := sl_g hs (by omega)
      have h0 := hcell j hlt
      have i1 : (j : Int) < (t.length : Int) := by omega
      have HY := Lib.hid (HT.out j hlt)
      have HGOOD := Lib.hid (show f (t.getD j 0) = false → ∀ v, v < j + 1 → f (t.getD v 0) = false from fun h v hv => by
        by_cases e : v = j
        · subst e; exact h
        · exact hgood v (by omega))
      have hC := HCL.out (t.getD j 0)
      clear hcell HT HF hgood hs HCL
      generalize t.getD j 0 = y at *
      cases hf : f y with
      | true =>
        rw [hf] at hC
        have HC := Lib.hid hC
        have HN := Lib.hid (HY.out hf)
        clear hf hC HY HGOOD
        go_wp2_with fail
        refine (HC.out).mono ?_
        rintro e wx ⟨rfl, hwx⟩
        obtain rfl := hwx.symm
        go_wp2_with fail
        go_ret
        exact ⟨⟨(j : Int), rfl, by rw [HN.out]; exact decide_eq_true (by omega)⟩, rfl⟩
      | false =>
        rw [hf] at hC
        have HC := Lib.hid hC
        have HN := Lib.hid (HGOOD.out hf)
        clear hf hC HY HGOOD
        go_wp2_with fail
        refine (HC.out).mono ?_
        rintro e wx ⟨rfl, hwx⟩
        obtain rfl := hwx.symm
        go_wp2_with fail
        go_roundw
        case rel => exact ⟨j + 1, by omega, by go_num, HN.out, trivial⟩
        case measure => simp [intOf]; omega
    · obtain rfl : j = t.length := by omega
      have HN := Lib.hid (HF.out hgood)
      have i1 : ¬ (t.length : Int) < (t.length : Int) := by omega
      clear HT HF hgood hs HCL
      go_wp2_with fail
      go_ret
      exact ⟨⟨-1, rfl, by rw [HN.out]; rfl⟩, rfl⟩
set_option maxRecDepth 100000 in
theorem cfC_any (E t : List Int) (A : Option Addr) (cap g b off c : Nat) (w : World) (hm : E.length ≤ 1000) (htl : t.length ≤ 1000) (hs : Sl w w.heap.size A (t.flatMap decI)) (hg : w.cell? ⟨g, 0, none⟩ = some (.slice (some ⟨b, off, none⟩) E.length c))
    (hc : ∀ j, j < E.length → w.cell? ⟨b, off + j, none⟩ = some (.int .i64 (E.getD j 0))) :
    Calls Tryd.prog 100 #[.slice A t.length cap, .func (.func 101) #[] #[.pointer (some ⟨g, 0, none⟩)]] w fun e w' => e = .returned (.bool (anyF (nin E) t)) ∧ w' = w := by
  have HI := Lib.hid (ixC_any E t A cap g b off c w hm htl hs hg hc)
  clear hs
  go_enter Tryd.func100, Tryd.ntmps100
  go_wp2_with fail
  refine HI.out.mono ?_
  rintro e wx ⟨⟨i, rfl, hi⟩, hwx⟩
  obtain rfl := hwx.symm
  by_cases h : 0 ≤ i
  · have HN := Lib.hid (decide_eq_true h)
    go_wp2_with fail
    go_ret
    exact ⟨by rw [← hi, HN.out]; rfl, rfl⟩
  · have HN := Lib.hid (decide_eq_false h)
    go_wp2_with fail
    go_ret
    exact ⟨by rw [← hi, HN.out]; rfl, rfl⟩
set_option maxRecDepth 100000 in
theorem cfE_any (t : List Int) (A : Option Addr) (cap : Nat) (w : World) (htl : t.length ≤ 1000) (hs : Sl w w.heap.size A (t.flatMap decI)) :
    Calls Tryd.prog 100 #[.slice A t.length cap, .func (.func 106) #[] #[]] w fun e w' => e = .returned (.bool (anyF lt1 t)) ∧ w' = w := by
  have HI := Lib.hid (ixE_any t A cap w htl hs)
  clear hs
  go_enter Tryd.func100, Tryd.ntmps100
  go_wp2_with fail
  refine HI.out.mono ?_
  rintro e wx ⟨⟨i, rfl, hi⟩, hwx⟩
  obtain rfl := hwx.symm
  by_cases h : 0 ≤ i
  · have HN := Lib.hid (decide_eq_true h)
    go_wp2_with fail
    go_ret
    exact ⟨by rw [← hi, HN.out]; rfl, rfl⟩
  · have HN := Lib.hid (decide_eq_false h)
    go_wp2_with fail
    go_ret
    exact ⟨by rw [← hi, HN.out]; rfl, rfl⟩
theorem equal_any (l k : List Int) (A C : Option Addr) (c1 c2 : Nat) (w : World) (hm : l.length ≤ 9223372036854775807) (hm2 : k.length ≤ 9223372036854775807) (hs : Sl w w.heap.size A (l.flatMap decI)) (ht : Sl w w.heap.size C (k.flatMap decI)) :
    Calls Tryd.prog 105 #[.slice A l.length c1, .slice C k.length c2] w fun e w' => e = .returned (.bool (decide (l = k))) ∧ ∃ q, w' = w.drewN q := by
  by_cases hl : l.length = k.length
  · by_cases h0 : l.length = 0
    · have e1 : l = [] := List.eq_nil_of_length_eq_zero h0
      have e2 : k = [] := List.eq_nil_of_length_eq_zero (by omega)
      subst e1 e2
      refine (Tryd.slices_Equal_int_empty A C c1 0 c2 w (by omega)).mono ?_
      rintro e w' ⟨rfl, rfl⟩
      exact ⟨rfl, 0, rfl⟩
    · obtain ⟨b, off, rfl, _, hc⟩ := sl_g hs (by omega)
      obtain ⟨b2, off2, rfl, _, hc2⟩ := sl_g ht (by omega)
      refine (Tryd.slices_Equal_int b off l.length c1 b2 off2 k.length c2 l k w (Nat.le_refl _) (Nat.le_refl _) hm hm2 hc hc2).mono ?_
      rintro e w' ⟨rfl, q, rfl⟩
      refine ⟨?_, q, rfl⟩
      rw [List.take_length, List.take_length]
      by_cases h : l = k <;> simp [h]
  · refine (Tryd.slices_Equal_int_lens A C l.length c1 k.length c2 w hl).mono ?_
    rintro e w' ⟨rfl, rfl⟩
    refine ⟨?_, 0, rfl⟩
    rw [decide_eq_false]
    intro h
    rw [h] at hl
    exact hl rfl
/-- A world with a box of two values made at w's end. -/
def Bx (w W : World) (x y : Value) : Prop := Below w.heap.size w W ∧ w.heap.size < W.heap.size ∧ W.cell? ⟨w.heap.size, 0, none⟩ = some x ∧ W.cell? ⟨w.heap.size, 1, none⟩ = some y
theorem Bx.made (w : World) (x y : Value) (T : TypeId) : Bx w (w.alloc (.cells #[x, y] T)) x y :=
  ⟨below_new _ _, by simp, blk_cell (blk_new w (.cells #[x, y] T)) 0 (by simp), blk_cell (blk_new w (.cells #[x, y] T)) 1 (by simp)⟩
theorem Bx.drewN {w W : World} {x y : Value} (h : Bx w W x y) (q : Nat) : Bx w (W.drewN q) x y := ⟨below_drewN h.1 q, h.2⟩
theorem Bx.step {w W V : World} {x y : Value} (h : Bx w W x y) (b : Below W.heap.size W V) : Bx w V x y :=
  ⟨nx h.1 b, Nat.lt_of_lt_of_le h.2.1 b.size, (b.cell (p := ⟨w.heap.size, 0, none⟩) h.2.1).trans h.2.2.1, (b.cell (p := ⟨w.heap.size, 1, none⟩) h.2.1).trans h.2.2.2⟩
theorem Bx.sl {w W : World} {x y : Value} (h : Bx w W x y) {A : Option Addr} {xs : List Value} (hs : Sl w w.heap.size A xs) : Sl W W.heap.size A xs := (hs.below h.1).more h.1.size
end Go.Proofs.YtcfdphfochfeoaaDoor.Tp
