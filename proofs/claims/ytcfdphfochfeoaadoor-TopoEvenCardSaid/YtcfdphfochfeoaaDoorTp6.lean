/- Walks of layer 6: Same, numbers. -/
import Derived.Test.YtcfdphfochfeoaaDoorTp5
import Derived.Test.YtcfdphfochfeoaaDoorTpQ
namespace Go.Proofs.YtcfdphfochfeoaaDoor.Tp
open Go.RowKit Go.Proofs.YtcfdphfochfeoaaDoor.Li Go.Proofs.YtcfdphfochfeoaaDoor.De Go.Proofs.YtcfdphfochfeoaaDoor.Ara
open Go.Proofs.YtcfdphfochfeoaaDoor.Pi (wsum words_sum rl_sum)

theorem ssame (p q t u : List Int) (h : p = q) : decide (p = q ∧ t = u) = decide (t = u) := by simp [h]
theorem ssame_no (p q t u : List Int) (h : p ≠ q) : decide (p = q ∧ t = u) = false := by simp [h]
set_option maxRecDepth 100000 in
theorem tsame_any (p t q u : List Int) (A B A2 B2 : Option Addr) (c d c2 d2 : Nat) (w : World) (hp : p.length ≤ 9223372036854775807) (htl : t.length ≤ 9223372036854775807) (hq : q.length ≤ 9223372036854775807) (hu : u.length ≤ 9223372036854775807)
    (hs : Sl w w.heap.size A (p.flatMap decI)) (ht : Sl w w.heap.size B (t.flatMap decI)) (hs2 : Sl w w.heap.size A2 (q.flatMap decI)) (ht2 : Sl w w.heap.size B2 (u.flatMap decI)) :
    Calls Tryd.prog 71 #[(.agg #[.slice A p.length c, .slice B t.length d]), (.agg #[.slice A2 q.length c2, .slice B2 u.length d2])] w fun e w' => e = .returned (.bool (decide (p = q ∧ t = u))) ∧ Below w.heap.size w w' := by
  have H1 := Lib.hid (fun W => equal_any p q A A2 c c2 W hp hq)
  have H2 := Lib.hid (fun W => equal_any t u B B2 d d2 W htl hu)
  by_cases h : p = q
  · have HN := Lib.hid (ssame p q t u h)
    have hd := decide_eq_true h
    rw [hd] at H1
    clear h hd
    generalize decide (t = u) = r at *
    go_enter Tryd.func71, Tryd.ntmps71
    go_upto_region 1 with fail
    have h1 := Lib.hid (Bx.made w (.slice A p.length c) (.slice B t.length d) 75)
    have hz : (w.alloc (.cells #[.slice A p.length c, .slice B t.length d] 75)).heap.size = w.heap.size + 1 := by simp
    generalize w.alloc (.cells #[.slice A p.length c, .slice B t.length d] 75) = W0 at *
    have h2 := Lib.hid (Bx.made W0 (.slice A2 q.length c2) (.slice B2 u.length d2) 75)
    generalize W0.alloc (.cells #[.slice A2 q.length c2, .slice B2 u.length d2] 75) = W1 at *
    have h1 := Lib.hid (h1.out.step h2.out.1)
    have c0 := h1.out.2.2.1
    have c1 := h1.out.2.2.2
    have e0 := h2.out.2.2.1
    have e1 := h2.out.2.2.2
    rw [hz] at e0 e1
    have SP := Lib.hid (h1.out.sl hs)
    have ST := Lib.hid (h1.out.sl ht)
    have SQ := Lib.hid (h1.out.sl hs2)
    have SU := Lib.hid (h1.out.sl ht2)
    clear hs ht hs2 ht2
    go_wp2_with fail
    refine (H1.out _ SP.out SQ.out).mono ?_
    rintro e wx ⟨rfl, n1, rfl⟩
    go_wp2_with fail
    refine (H2.out (W1.drewN n1) ST.out SU.out).mono ?_
    rintro e wx ⟨rfl, n2, rfl⟩
    go_wp2_with fail
    go_ret
    exact ⟨by rw [HN.out]; rfl, below_drewN h1.out.1 _⟩
  · have HN := Lib.hid (ssame_no p q t u h)
    have hd := decide_eq_false h
    rw [hd] at H1
    clear h hd
    go_enter Tryd.func71, Tryd.ntmps71
    go_upto_region 1 with fail
    have h1 := Lib.hid (Bx.made w (.slice A p.length c) (.slice B t.length d) 75)
    have hz : (w.alloc (.cells #[.slice A p.length c, .slice B t.length d] 75)).heap.size = w.heap.size + 1 := by simp
    generalize w.alloc (.cells #[.slice A p.length c, .slice B t.length d] 75) = W0 at *
    have h2 := Lib.hid (Bx.made W0 (.slice A2 q.length c2) (.slice B2 u.length d2) 75)
    generalize W0.alloc (.cells #[.slice A2 q.length c2, .slice B2 u.length d2] 75) = W1 at *
    have h1 := Lib.hid (h1.out.step h2.out.1)
    have c0 := h1.out.2.2.1
    have c1 := h1.out.2.2.2
    have e0 := h2.out.2.2.1
    have e1 := h2.out.2.2.2
    rw [hz] at e0 e1
    have SP := Lib.hid (h1.out.sl hs)
    have ST := Lib.hid (h1.out.sl ht)
    have SQ := Lib.hid (h1.out.sl hs2)
    have SU := Lib.hid (h1.out.sl ht2)
    clear hs ht hs2 ht2
    go_wp2_with fail
    refine (H1.out _ SP.out SQ.out).mono ?_
    rintro e wx ⟨rfl, n1, rfl⟩
    go_wp2_with fail
    go_ret
    exact ⟨by rw [HN.out]; rfl, below_drewN h1.out.1 _⟩
set_option maxRecDepth 100000 in
theorem rtsame_any (p t q u : List Int) (A B A2 B2 : Option Addr) (c d c2 d2 : Nat) (w : World) (hp : p.length ≤ 9223372036854775807) (htl : t.length ≤ 9223372036854775807) (hq : q.length ≤ 9223372036854775807) (hu : u.length ≤ 9223372036854775807)
    (hs : Sl w w.heap.size A (p.flatMap decI)) (ht : Sl w w.heap.size B (t.flatMap decI)) (hs2 : Sl w w.heap.size A2 (q.flatMap decI)) (ht2 : Sl w w.heap.size B2 (u.flatMap decI)) :
    Calls Tryd.prog 72 #[(.agg #[.slice A p.length c, .slice B t.length d]), (.agg #[.slice A2 q.length c2, .slice B2 u.length d2])] w fun e w' => e = .returned (.bool (decide (p = q ∧ t = u))) ∧ Below w.heap.size w w' := by
  have H1 := Lib.hid (fun W => same_any p q A A2 c c2 W hp hq)
  have H2 := Lib.hid (fun W => same_any t u B B2 d d2 W htl hu)
  by_cases h : p = q
  · have HN := Lib.hid (ssame p q t u h)
    have hd := decide_eq_true h
    rw [hd] at H1
    clear h hd
    generalize decide (t = u) = r at *
    go_enter Tryd.func72, Tryd.ntmps72
    go_upto_region 1 with fail
    have h1 := Lib.hid (Bx.made w (.slice A p.length c) (.slice B t.length d) 75)
    have hz : (w.alloc (.cells #[.slice A p.length c, .slice B t.length d] 75)).heap.size = w.heap.size + 1 := by simp
    generalize w.alloc (.cells #[.slice A p.length c, .slice B t.length d] 75) = W0 at *
    have h2 := Lib.hid (Bx.made W0 (.slice A2 q.length c2) (.slice B2 u.length d2) 75)
    generalize W0.alloc (.cells #[.slice A2 q.length c2, .slice B2 u.length d2] 75) = W1 at *
    have h1 := Lib.hid (h1.out.step h2.out.1)
    have c0 := h1.out.2.2.1
    have c1 := h1.out.2.2.2
    have e0 := h2.out.2.2.1
    have e1 := h2.out.2.2.2
    rw [hz] at e0 e1
    have SP := Lib.hid (h1.out.sl hs)
    have ST := Lib.hid (h1.out.sl ht)
    have SQ := Lib.hid (h1.out.sl hs2)
    have SU := Lib.hid (h1.out.sl ht2)
    clear hs ht hs2 ht2
    go_wp2_with fail
    refine (H1.out _ SP.out SQ.out).mono ?_
    rintro e w2 ⟨rfl, b2⟩
    have ST2 := Lib.hid (ST.out.step b2)
    have SU2 := Lib.hid (SU.out.step b2)
    have HB2 := Lib.hid (nx h1.out.1 b2)
    have c1 := (b2.cell (p := ⟨w.heap.size, 1, none⟩) h1.out.2.1).trans c1
    have e1 := (b2.cell (p := ⟨w.heap.size + 1, 1, none⟩) (by show w.heap.size + 1 < W1.heap.size; have := h2.out.2.1; omega)).trans e1
    clear b2
    go_wp2_with fail
    refine (H2.out _ ST2.out SU2.out).mono ?_
    rintro e w3 ⟨rfl, b3⟩
    have HB3 := Lib.hid (nx HB2.out b3)
    clear b3
    go_wp2_with fail
    go_ret
    exact ⟨by rw [HN.out]; rfl, HB3.out⟩
  · have HN := Lib.hid (ssame_no p q t u h)
    have hd := decide_eq_false h
    rw [hd] at H1
    clear h hd
    go_enter Tryd.func72, Tryd.ntmps72
    go_upto_region 1 with fail
    have h1 := Lib.hid (Bx.made w (.slice A p.length c) (.slice B t.length d) 75)
    have hz : (w.alloc (.cells #[.slice A p.length c, .slice B t.length d] 75)).heap.size = w.heap.size + 1 := by simp
    generalize w.alloc (.cells #[.slice A p.length c, .slice B t.length d] 75) = W0 at *
    have h2 := Lib.hid (Bx.made W0 (.slice A2 q.length c2) (.slice B2 u.length d2) 75)
    generalize W0.alloc (.cells #[.slice A2 q.length c2, .slice B2 u.length d2] 75) = W1 at *
    have h1 := Lib.hid (h1.out.step h2.out.1)
    have c0 := h1.out.2.2.1
    have c1 := h1.out.2.2.2
    have e0 := h2.out.2.2.1
    have e1 := h2.out.2.2.2
    rw [hz] at e0 e1
    have SP := Lib.hid (h1.out.sl hs)
    have ST := Lib.hid (h1.out.sl ht)
    have SQ := Lib.hid (h1.out.sl hs2)
    have SU := Lib.hid (h1.out.sl ht2)
    clear hs ht hs2 ht2
    go_wp2_with fail
    refine (H1.out _ SP.out SQ.out).mono ?_
    rintro e w2 ⟨rfl, b2⟩
    have HB2 := Lib.hid (nx h1.out.1 b2)
    clear b2
    go_wp2_with fail
    go_ret
    exact ⟨by rw [HN.out]; rfl, HB2.out⟩
theorem few_any (p t : List Int) (A B : Option Addr) (c d : Nat) (w : World) (hp : p.length ≤ 9223372036854775807) (htl : t.length ≤ 9223372036854775807) :
    Calls Tryd.prog 61 #[(.agg #[.slice A p.length c, .slice B t.length d])] w fun e w' => e = .returned (.bool (decide (p.length ≤ 60) && decide (t.length ≤ 60))) ∧ Below w.heap.size w w' := by
  have hx := Bx.made w (.slice A p.length c) (.slice B t.length d) 75
  have HX := Lib.hid hx
  clear hx
  obtain ⟨r, hr⟩ : ∃ r, (decide (p.length ≤ 60) && decide (t.length ≤ 60)) = r := ⟨_, rfl⟩
  rw [hr]
  by_cases h : p.length ≤ 60
  · have i1 : (p.length : Int) ≤ 60 := by omega
    by_cases h2 : t.length ≤ 60
    · have i2 : (t.length : Int) ≤ 60 := by omega
      have HN := Lib.hid (show r = true by rw [← hr]; simp [h, h2])
      clear hr
      go_enter Tryd.func61, Tryd.ntmps61
      go_wp2_with fail
      go_ret
      exact ⟨by rw [HN.out]; rfl, HX.out.1⟩
    · have i2 : ¬ (t.length : Int) ≤ 60 := by omega
      have HN := Lib.hid (show r = false by rw [← hr]; simp [h2])
      clear hr
      go_enter Tryd.func61, Tryd.ntmps61
      go_wp2_with fail
      go_ret
      exact ⟨by rw [HN.out]; rfl, HX.out.1⟩
  · have i1 : ¬ (p.length : Int) ≤ 60 := by omega
    have HN := Lib.hid (show r = false by rw [← hr]; simp [h])
    clear hr
    go_enter Tryd.func61, Tryd.ntmps61
    go_wp2_with fail
    go_ret
    exact ⟨by rw [HN.out]; rfl, HX.out.1⟩
/-- numbers of a line -/
theorem words_s (l : List UInt8) (w : World) (h : l.length ≤ 4096) : Calls Tryd.prog 23 #[vS l] w fun e w' => ∃ A c, e = .returned (.slice A (words l).length c) ∧ Sl w' w'.heap.size A ((words l).map vS) ∧ Below w.heap.size w w' :=
  words_sl (B l) w (by rw [size_B]; exact h)
theorem mem_wsum {x : List UInt8} : ∀ ls : List (List UInt8), x ∈ ls → x.length + 1 ≤ wsum ls
  | [], h => by cases h
  | y :: r, h => by
    have e : wsum (y :: r) = y.length + 1 + wsum r := by simp [wsum]
    rcases List.mem_cons.1 h with h | h
    · subst h; omega
    · have := mem_wsum r h; omega
theorem word_le {l : List UInt8} : ∀ x ∈ words l, x.length ≤ l.length := by
  intro x hx
  have h1 := words_sum l
  have := mem_wsum _ hx
  omega
theorem line_le {l : List UInt8} : ∀ x ∈ lines l, x.length ≤ l.length := by
  intro x hx
  have h1 : wsum (lines l) ≤ 0 + l.length + 1 := rl_sum l []
  have := mem_wsum _ hx
  omega
set_option maxRecDepth 100000 in
theorem numb_own (W s : List UInt8) (hl : s.length ≤ 4000) (w : World) (ho : Ok w) :
    Calls Tryd.prog 107 #[vS s, vS W] w fun e w' => ∃ v, e = .returned (.tuple #[v, .int .i64 (nmb W s).2]) ∧ w'.ownsRow w.heap.size 3 1 v (nmb W s).1.length ((nmb W s).1.map (Value.int .i64)) ∧ Below w.heap.size w w' := by
  have HW := Lib.hid (words_s s w (by omega))
  have hwl := words_len s
  by_cases h2 : (words s).length = 2
  · obtain ⟨x, y, e⟩ := two_of h2
    have hy : y.length ≤ 4000 := by
      have := word_le (l := s) y (by rw [e]; simp)
      omega
    rw [e] at HW
    clear h2 hwl
    have HM := Lib.hid (nmb_two (W := W) e)
    clear e
    have HN := Lib.hid (fun W' hW' => numbers_any y hy W' hW')
    by_cases hx : x = W
    · have HM := Lib.hid (HM.out.trans (if_pos hx))
      have q := beq_iff_eq.2 hx
      have q2 : ((2 : Int) != 2) = false := rfl
      rw [HM.out]
      generalize hRR : nl y = R
      have HRR := Lib.hid hRR
      clear hRR
      go_enter Tryd.func107, Tryd.ntmps107
      go_wp2_with fail
      refine HW.out.mono ?_
      rintro e w1 ⟨A1, c1, rfl, s1, b1⟩
      obtain ⟨b, off, rfl, hbb, hcell⟩ := sl_str s1 (k := 0) (by simp)
      have h0 : w1.cell? ⟨b, off, none⟩ = some (vS x) := hcell 0 (by simp)
      have h1 : w1.cell? ⟨b, off + 1, none⟩ = some (vS y) := hcell 1 (by simp)
      have B1 := Lib.hid b1
      have O1 := Lib.hid (ho.step b1)
      clear b1 s1 hcell hx
      go_wp2_with fail
      refine (HN.out _ O1.out).mono ?_
      rintro e w2 ⟨v2, rfl, s2, b2⟩
      rw [HRR.out] at s2 ⊢
      have B2 := Lib.hid (nx B1.out b2)
      have S2 := Lib.hid (own_base s2 B1.out.size)
      clear b2 s2
      go_wp2_with fail
      go_ret2
      exact ⟨v2, rfl, S2.out, B2.out⟩
    · have HM := Lib.hid (HM.out.trans (if_neg hx))
      have q := beq_eq_false_iff_ne.2 hx
      have q2 : ((2 : Int) != 2) = false := rfl
      rw [HM.out]
      go_enter Tryd.func107, Tryd.ntmps107
      go_wp2_with fail
      refine HW.out.mono ?_
      rintro e w1 ⟨A1, c1, rfl, s1, b1⟩
      obtain ⟨b, off, rfl, hbb, hcell⟩ := sl_str s1 (k := 0) (by simp)
      have h0 : w1.cell? ⟨b, off, none⟩ = some (vS x) := hcell 0 (by simp)
      have B1 := Lib.hid b1
      clear b1 s1 hcell hx
      go_wp2_with fail
      go_ret2
      exact ⟨.slice none 0 0, rfl, World.ownsRow_nil _ _ _ _, B1.out⟩
  · have HM := Lib.hid (nmb_no (W := W) h2)
    rw [HM.out]
    have q : (((words s).length : Int) != 2) = true := ibne (by omega)
    clear h2
    generalize words s = ws at *
    go_enter Tryd.func107, Tryd.ntmps107
    go_wp2_with fail
    refine HW.out.mono ?_
    rintro e w1 ⟨A1, c1, rfl, s1, b1⟩
    have B1 := Lib.hid b1
    clear b1 s1
    go_wp2_with fail
    go_ret2
    exact ⟨.slice none 0 0, rfl, World.ownsRow_nil _ _ _ _, B1.out⟩
end Go.Proofs.YtcfdphfochfeoaaDoor.Tp
