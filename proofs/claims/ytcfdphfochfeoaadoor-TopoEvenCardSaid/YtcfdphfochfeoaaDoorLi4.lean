/- What the laws of texts ask: few, awake; the walk of LineSays. -/
import Derived.Test.YtcfdphfochfeoaaDoorLi3
namespace Go.Proofs.YtcfdphfochfeoaaDoor.Li
open Go.RowKit Go.Shelf

/-- The one cell of a variable that the library's Split asks. -/
def Ok (w : World) : Prop := ∃ m : Int, w.cell? ⟨0, 0, none⟩ = some (.int .i64 m)
theorem Ok.below {B : Nat} {w w' : World} (h : Ok w) (hB : 0 < B) (hb : Below B w w') : Ok w' := h.imp fun _ hm => (hb.cell (p := ⟨0, 0, none⟩) hB).trans hm
theorem Ok.pos {w : World} (h : Ok w) : 0 < w.heap.size := by
  obtain ⟨m, hm⟩ := h
  exact World.block_lt_of_cell? w _ hm
theorem Ok.step {w w' : World} (h : Ok w) (hb : Below w.heap.size w w') : Ok w' := h.below h.pos hb
theorem own_sl {w : World} {base : Nat} {v : Value} {l : List (List UInt8)} (h : w.ownsRow base 9 1 v l.length (l.map vS)) : ∃ A c, v = .slice A l.length c ∧ Sl w w.heap.size A (l.map vS) := by
  obtain ⟨A, c, h1, _, _, h2⟩ := own_slice h
  exact ⟨A, c, h1, h2⟩
theorem words_sl (s : ByteArray) (w : World) (hs : s.size ≤ 4096) : Calls Tryd.prog 23 #[.string s] w fun e w' => ∃ A c, e = .returned (.slice A (words (L s)).length c) ∧ Sl w' w'.heap.size A ((words (L s)).map vS) ∧ Below w.heap.size w w' := by
  refine (words_any s w hs).mono ?_
  rintro e w' ⟨v, rfl, h1, h2⟩
  obtain ⟨A, c, rfl, h3⟩ := own_sl h1
  exact ⟨A, c, rfl, h3, h2⟩
theorem rwords_sl (s : ByteArray) (w : World) (hs : s.size ≤ 4096) : Calls Tryd.prog 24 #[.string s] w fun e w' => ∃ A c, e = .returned (.slice A (words (L s)).length c) ∧ Sl w' w'.heap.size A ((words (L s)).map vS) ∧ Below w.heap.size w w' := by
  refine (rwords_any s w hs).mono ?_
  rintro e w' ⟨v, rfl, h1, h2⟩
  obtain ⟨A, c, rfl, h3⟩ := own_sl h1
  exact ⟨A, c, rfl, h3, h2⟩
theorem lines_sl (s : ByteArray) (w : World) (hs : s.size ≤ 4096) (ho : Ok w) : Calls Tryd.prog 21 #[.string s] w fun e w' => ∃ A c, e = .returned (.slice A (lines (L s)).length c) ∧ Sl w' w'.heap.size A ((lines (L s)).map vS) ∧ Below w.heap.size w w' := by
  obtain ⟨m, hm⟩ := ho
  refine (lines_any s w hs m hm).mono ?_
  rintro e w' ⟨v, rfl, h1, h2⟩
  obtain ⟨A, c, rfl, h3⟩ := own_sl h1
  exact ⟨A, c, rfl, h3, h2⟩
theorem rlines_sl (s : ByteArray) (w : World) (hs : s.size ≤ 4096) : Calls Tryd.prog 22 #[.string s] w fun e w' => ∃ A c, e = .returned (.slice A (lines (L s)).length c) ∧ Sl w' w'.heap.size A ((lines (L s)).map vS) ∧ Below w.heap.size w w' := by
  refine (rlines_any s w hs).mono ?_
  rintro e w' ⟨v, rfl, h1, h2⟩
  obtain ⟨A, c, rfl, h3⟩ := own_sl h1
  exact ⟨A, c, rfl, h3, h2⟩
theorem nx {w a b : World} (h : Below w.heap.size w a) (k : Below a.heap.size a b) : Below w.heap.size w b := h.trans (k.mono h.size)
/-- How many words and lines there are. -/
theorem words_len (l : List UInt8) : (words l).length ≤ l.length := by
  have key : ∀ (n : Nat) (l : List UInt8), l.length ≤ n → (words l).length ≤ l.length := by
    intro n
    induction n with
    | zero =>
      intro l hl
      have : l = [] := List.eq_nil_of_length_eq_zero (by omega)
      subst this
      exact Nat.le_refl _
    | succ n ih =>
      intro l hl
      rw [words_head]
      split
      · simp
      · rename_i h
        have h1 : 0 < (headW l).length := List.length_pos_iff.2 h
        have h2 := head_len l
        have h3 := ih (headR l) (by omega)
        simp only [List.length_cons]
        omega
  exact key _ l (Nat.le_refl _)
theorem rl_len (l : List UInt8) : ∀ cur, (rl cur l).length ≤ l.length + 1 := by
  induction l with
  | nil => intro cur; unfold rl; split <;> simp
  | cons b t ih =>
    intro cur
    unfold rl
    split
    · have := ih []; simp; omega
    · have := ih (cur ++ [b]); simp; omega
theorem lines_len (l : List UInt8) : (lines l).length ≤ l.length + 1 := rl_len l []
theorem same_tt (l : List (List UInt8)) (A C : Option Addr) (c1 c2 : Nat) (w : World) (hm : l.length ≤ 4096) (hs : Sl w w.heap.size A (l.map vS)) (ht : Sl w w.heap.size C (l.map vS)) :
    Calls Tryd.prog 20 #[.slice A l.length c1, .slice C l.length c2] w fun e w' => e = .returned (.bool true) ∧ Below w.heap.size w w' := by
  refine (rsame_any l l A C c1 c2 w hm hm hs ht).mono ?_
  rintro e w' ⟨rfl, n, rfl⟩
  exact ⟨by rw [decide_eq_true rfl], below_drewN (Below.refl _ _) _⟩
def fewP (ls : List (List UInt8)) : Prop := ls.length ≤ 20 ∧ ∀ x ∈ ls, x.length ≤ 100
def fewQ (ls : List (List UInt8)) (e : Ending) : Prop := ∃ b, e = .returned (.bool b) ∧ (b = true → fewP ls)
theorem few_textL {ls : List (List UInt8)} (h : fewP ls) : (textL ls).length ≤ 2020 := by
  have key : ∀ ls : List (List UInt8), (∀ x ∈ ls, x.length ≤ 100) → (textL ls).length ≤ ls.length * 101 := by
    intro ls
    induction ls with
    | nil => intro _; exact Nat.le_refl _
    | cons x r ih =>
      intro h
      have h1 := h x (by simp)
      have h2 := ih (fun y hy => h y (by simp [hy]))
      unfold textL at h2 ⊢
      rw [List.flatMap_cons, List.length_append, List.length_cons, Nat.add_mul]
      simp only [List.length_append, List.length_cons, List.length_nil]
      omega
  have := key ls h.2
  have := h.1
  omega
set_option maxRecDepth 100000 in
set_option maxHeartbeats 1000000 in
theorem few_any (ls : List (List UInt8)) (A : Option Addr) (cap : Nat) (w : World) (hm : ls.length ≤ 9223372036854775807) (h63 : ∀ x ∈ ls, x.length ≤ 9223372036854775807) (hs : Sl w w.heap.size A (ls.map vS)) :
    Calls Tryd.prog 16 #[.slice A ls.length cap] w fun e w' => fewQ ls e ∧ w' = w := by
  go_enter Tryd.func16, Tryd.ntmps16
  go_wp2_with fail
  go_loopw [3] (fun i wr => ∃ k : Nat, k ≤ ls.length ∧ i = .int .i64 k ∧ (0 < k → ls.length ≤ 20) ∧ (∀ x ∈ ls.take k, x.length ≤ 100) ∧ wr = w) (fun i _ => ls.length - (intOf i).toNat)
  case atStart => exact ⟨0, Nat.zero_le _, rfl, by omega, by simp, rfl⟩
  case round =>
    obtain ⟨k, hk, rfl, h20, hall, hwr⟩ := hrel
    subst hwr
    by_cases hlt : k < ls.length
    · obtain ⟨b, off, rfl, hbb, hcell⟩ := sl_str hs hlt
      have h0 := hcell k hlt
      have i1 : (k : Int) < (ls.length : Int) := by omega
      have HT := Lib.hid (List.take_succ_eq_append_getElem hlt)
      have hx63 := h63 ls[k] (List.getElem_mem hlt)
      clear hcell hs h63
      generalize ls[k] = x at *
      by_cases hl : ls.length ≤ 20
      · have i2 : ¬ (20 : Int) < (ls.length : Int) := by omega
        have hsx := size_B x
        by_cases hx : x.length ≤ 100
        · have i3 : ¬ (100 : Int) < (x.length : Int) := by omega
          have HA := Lib.hid (show ∀ y ∈ ls.take (k + 1), y.length ≤ 100 by
            rw [HT.out]
            intro y hy
            rcases List.mem_append.1 hy with hy | hy
            · exact hall y hy
            · rw [List.mem_singleton.1 hy]; exact hx)
          clear hall h20
          go_wp2_with fail
          go_roundw
          case rel => exact ⟨k + 1, by omega, by go_num, fun _ => hl, HA.out, by trivial⟩
          case measure => simp [intOf]; omega
        · have i3 : (100 : Int) < (x.length : Int) := by omega
          clear hall h20
          go_wp2_with fail
          go_ret
          exact ⟨⟨false, rfl, by simp⟩, rfl⟩
      · have i2 : (20 : Int) < (ls.length : Int) := by omega
        clear hall h20
        go_wp2_with fail
        go_ret
        exact ⟨⟨false, rfl, by simp⟩, rfl⟩
    · have HA := Lib.hid (show fewP ls by
        refine ⟨?_, fun x hx => hall x (by rw [List.take_of_length_le (by omega)]; exact hx)⟩
        by_cases h0 : 0 < k
        · exact h20 h0
        · omega)
      clear hall h20
      go_wp2_with fail
      go_ret
      exact ⟨⟨true, rfl, fun _ => HA.out⟩, by trivial⟩
set_option maxRecDepth 100000 in
set_option maxHeartbeats 4000000 in
theorem awake_any (w : World) (ho : Ok w) : Calls Tryd.prog 17 #[] w fun e w' => e = .returned (.bool true) ∧ Below w.heap.size w w' := by
  have a1 : Hid (∀ W, Calls Tryd.prog 18 #[.string ⟨#[32, 32, 97, 98, 9, 99, 32, 100]⟩] W fun e w' => e = .returned (.tuple #[vS [97, 98], vS [9, 99, 32, 100]]) ∧ Below W.heap.size W w') := Lib.hid (fun W => by
    have := head_any ⟨#[32, 32, 97, 98, 9, 99, 32, 100]⟩ W (by decide)
    rw [show headW (L ⟨#[32, 32, 97, 98, 9, 99, 32, 100]⟩) = [97, 98] by decide, show headR (L ⟨#[32, 32, 97, 98, 9, 99, 32, 100]⟩) = [9, 99, 32, 100] by decide] at this
    exact this)
  have a2 : Hid (∀ W, Calls Tryd.prog 23 #[.string ⟨#[32, 97, 98, 9, 99, 32, 100, 32]⟩] W fun e w' => ∃ A c, e = .returned (.slice A 3 c) ∧ Sl w' w'.heap.size A [vS [97, 98], vS [99], vS [100]] ∧ Below W.heap.size W w') := Lib.hid (fun W => by
    have := words_sl ⟨#[32, 97, 98, 9, 99, 32, 100, 32]⟩ W (by decide)
    rw [show words (L ⟨#[32, 97, 98, 9, 99, 32, 100, 32]⟩) = [[97, 98], [99], [100]] by decide] at this
    exact this)
  have a3 : Hid (∀ W, Ok W → Calls Tryd.prog 21 #[.string ⟨#[97, 10, 10, 98]⟩] W fun e w' => ∃ A c, e = .returned (.slice A 3 c) ∧ Sl w' w'.heap.size A [vS [97], vS [], vS [98]] ∧ Below W.heap.size W w') := Lib.hid (fun W hW => by
    have := lines_sl ⟨#[97, 10, 10, 98]⟩ W (by decide) hW
    rw [show lines (L ⟨#[97, 10, 10, 98]⟩) = [[97], [], [98]] by decide] at this
    exact this)
  have a4 : Hid (∀ W, Ok W → Calls Tryd.prog 21 #[.string ⟨#[]⟩] W fun e w' => ∃ A c, e = .returned (.slice A 0 c) ∧ Sl w' w'.heap.size A [] ∧ Below W.heap.size W w') := Lib.hid (fun W hW => by
    have := lines_sl ⟨#[]⟩ W (by decide) hW
    rw [show lines (L ⟨#[]⟩) = [] by decide] at this
    exact this)
  have a5 := Lib.hid (fun A c1 C c2 W => same_tt [[97, 98], [99], [100]] A C c1 c2 W (by decide))
  have a6 := Lib.hid (fun A c1 C c2 W => same_tt [[97], [], [98]] A C c1 c2 W (by decide))
  have a7 := Lib.hid (fun A cap W => text_any [[97], []] A cap W (by decide) (by decide))
  go_enter Tryd.func17, Tryd.ntmps17
  go_wp2_with fail
  refine (a1.out _).mono ?_
  rintro e w1 ⟨rfl, b1⟩
  have B1 := Lib.hid b1
  have O1 := Lib.hid (ho.step b1)
  clear b1
  go_wp2_with fail
  refine (a2.out _).mono ?_
  rintro e w2 ⟨A2, c2, rfl, s2, b2⟩
  have B2 := Lib.hid (nx B1.out b2)
  have O2 := Lib.hid (O1.out.step b2)
  have S2 := Lib.hid s2
  clear b2 s2
  go_wp2_with fail
  refine (a5.out _ _ _ _ _ (S2.out.push _) (Sl.made w2 _ _)).mono ?_
  rintro e w3 ⟨rfl, b3⟩
  have B3 := Lib.hid (nx (nx B2.out (below_new _ _)) b3)
  have O3 := Lib.hid ((O2.out.step (below_new _ _)).step b3)
  clear b3
  go_wp2_with fail
  refine (a3.out _ O3.out).mono ?_
  rintro e w4 ⟨A4, c4, rfl, s4, b4⟩
  have B4 := Lib.hid (nx B3.out b4)
  have O4 := Lib.hid (O3.out.step b4)
  have S4 := Lib.hid s4
  clear b4 s4
  go_wp2_with fail
  refine (a6.out _ _ _ _ _ (S4.out.push _) (Sl.made w4 _ _)).mono ?_
  rintro e w5 ⟨rfl, b5⟩
  have B5 := Lib.hid (nx (nx B4.out (below_new _ _)) b5)
  have O5 := Lib.hid ((O4.out.step (below_new _ _)).step b5)
  clear b5
  go_wp2_with fail
  refine (a7.out _ _ _ (Sl.made w5 _ _)).mono ?_
  rintro e w6 ⟨rfl, b6⟩
  have B6 := Lib.hid (nx (nx B5.out (below_new _ _)) b6)
  have O6 := Lib.hid ((O5.out.step (below_new _ _)).step b6)
  clear b6
  have e6 : textL [[97], []] = [97, 10, 10] := by decide
  rw [e6]
  go_wp2_with fail
  refine (a4.out _ O6.out).mono ?_
  rintro e w7 ⟨A7, c7, rfl, _, b7⟩
  have B7 := Lib.hid (nx B6.out b7)
  clear b7
  go_wp2_with fail
  go_ret
  exact ⟨rfl, B7.out⟩
end Go.Proofs.YtcfdphfochfeoaaDoor.Li
