/- Layer 13: entry, awake. -/
import Derived.Test.YtmldkfmebplblaaTen5
namespace Go.Proofs.Ytmldkfmebplblaa.Ten
open Go.RowKit

theorem of_sl (nodes : List Int) (l : List Ev) (A C : Option Addr) (c1 c2 : Nat) (w : World) (hn1 : nodes.length ≤ c1) (hn2 : c1 ≤ maxLen) (hm : l.length ≤ 65536)
    (hs : Sl w w.heap.size A (nodes.flatMap decI)) (ht : Sl w w.heap.size C (l.flatMap decEv)) :
    Calls Try.prog 26 #[.slice A nodes.length c1, .slice C l.length c2] w fun e w' => ∃ V c, e = .returned (.tuple #[.slice V (ofAll nodes l).1.length c, .bool (ofAll nodes l).2]) ∧
      (ofAll nodes l).1.length ≤ c ∧ c ≤ maxLen ∧ Sl w' w'.heap.size V ((ofAll nodes l).1.flatMap decRn) ∧ Below w.heap.size w w' :=
  (of_any nodes l A C c1 c2 w hn1 hn2 hm hs ht).mono fun e w' ⟨v, he, hown, hb⟩ => by
    obtain ⟨V, c, rfl, h1, h2, h3⟩ := own_slice hown
    exact ⟨V, c, he, h1, h2, h3, hb⟩
theorem rof_sl (nodes : List Int) (l : List Ev) (A C : Option Addr) (c1 c2 : Nat) (w : World) (hn1 : nodes.length ≤ c1) (hn2 : c1 ≤ maxLen) (hm : l.length ≤ 65536)
    (hs : Sl w w.heap.size A (nodes.flatMap decI)) (ht : Sl w w.heap.size C (l.flatMap decEv)) :
    Calls Try.prog 27 #[.slice A nodes.length c1, .slice C l.length c2] w fun e w' => ∃ V c, e = .returned (.tuple #[.slice V (ofAll nodes l).1.length c, .bool (ofAll nodes l).2]) ∧
      (ofAll nodes l).1.length ≤ c ∧ c ≤ maxLen ∧ Sl w' w'.heap.size V ((ofAll nodes l).1.flatMap decRn) ∧ Below w.heap.size w w' :=
  (rof_any nodes l A C c1 c2 w hn1 hn2 hm hs ht).mono fun e w' ⟨v, he, hown, hb⟩ => by
    obtain ⟨V, c, rfl, h1, h2, h3⟩ := own_slice hown
    exact ⟨V, c, he, h1, h2, h3, hb⟩

theorem entry_any (t c : Int) (w : World) :
    Calls Try.prog 60 #[.int .i64 t, .int .i64 c] w fun e w' => e = .returned (.agg #[.int .i64 2, .int .i64 t, .bool false, .int .i64 c]) ∧ Below w.heap.size w w' := by
  go_enter Try.func60, Try.ntmps60
  go_wp2
  exact bodyPost_ret (v := .agg #[.int .i64 2, .int .i64 t, .bool false, .int .i64 c]) (by simp [results, Try.results60, go_sem]) rfl ⟨rfl, (Below.refl _ _).alloc (Nat.le_refl _) _⟩

theorem eval1 : ofAll [4, 4, 6] [⟨2, 0, false, 1⟩, ⟨2, 1, false, 2⟩, ⟨2, 2, false, 1⟩, ⟨2, 0, false, 1⟩] = ([⟨4, 0, 2⟩, ⟨6, 2, 1⟩, ⟨4, 3, 1⟩], true) := by decide +kernel
theorem eval2 : ofAll [4] [⟨2, 0, false, 1⟩, ⟨2, 0, false, 3⟩] = ([⟨4, 0, 1⟩], false) := by decide +kernel

theorem below_chain {B : Nat} {a b c : World} (h : Below B a b) (k : Below b.heap.size b c) (hB : B ≤ a.heap.size) : Below B a c := h.trans (k.mono (Nat.le_trans hB h.size))

set_option maxHeartbeats 4000000 in
theorem awake_any (w : World) :
    Calls Try.prog 25 #[] w fun e w' => e = .returned (.bool true) ∧ Below w.heap.size w w' := by
  have e1 : decide (([⟨4, 0, 2⟩, ⟨6, 2, 1⟩, ⟨4, 3, 1⟩] : List Rn) = [⟨4, 0, 2⟩, ⟨6, 2, 1⟩, ⟨4, 3, 1⟩]) = true := by decide
  have e2 : decide (([⟨4, 0, 1⟩] : List Rn) = [⟨4, 0, 1⟩]) = true := by decide
  have e3 : longest ([⟨4, 0, 2⟩, ⟨6, 2, 1⟩, ⟨4, 3, 1⟩] : List Rn) = 2 := by decide
  have e4 : turns ([⟨4, 0, 2⟩, ⟨6, 2, 1⟩, ⟨4, 3, 1⟩] : List Rn) = 2 := by decide
  have e5 : nodeOf [4] 1 = -1 := by decide
  have C1 := fun W A C h h' => of_sl [4, 4, 6] [⟨2, 0, false, 1⟩, ⟨2, 1, false, 2⟩, ⟨2, 2, false, 1⟩, ⟨2, 0, false, 1⟩] A C 3 4 W (by simp) (by simp [maxLen]) (by simp) h h'
  rw [eval1] at C1
  have C2 := fun W A C h h' => of_sl [4] [⟨2, 0, false, 1⟩, ⟨2, 0, false, 3⟩] A C 1 2 W (by simp) (by simp [maxLen]) (by simp) h h'
  rw [eval2] at C2
  have C3 := fun d1 W A C h h' => same_any ([⟨4, 0, 2⟩, ⟨6, 2, 1⟩, ⟨4, 3, 1⟩] : List Rn) [⟨4, 0, 2⟩, ⟨6, 2, 1⟩, ⟨4, 3, 1⟩] A C d1 3 W (by simp) (by simp) h h'
  have C4 := fun d2 W A C h h' => same_any ([⟨4, 0, 1⟩] : List Rn) [⟨4, 0, 1⟩] A C d2 1 W (by simp) (by simp) h h'
  have C5 := fun d1 W A h => longest_any ([⟨4, 0, 2⟩, ⟨6, 2, 1⟩, ⟨4, 3, 1⟩] : List Rn) A d1 W (by simp) h
  have C6 := fun d1 W A h => turns_any ([⟨4, 0, 2⟩, ⟨6, 2, 1⟩, ⟨4, 3, 1⟩] : List Rn) A d1 W (by simp) h
  have C7 := fun W A B h => node_any [4] A 1 1 B W (by simp) (by simp [maxLen]) h
  rw [e1] at C3
  rw [e2] at C4
  rw [e3] at C5
  rw [e4] at C6
  rw [e5] at C7
  clear e1 e2 e3 e4 e5
  have K1 := Lib.hid C1
  have K2 := Lib.hid C2
  have K3 := Lib.hid C3
  have K4 := Lib.hid C4
  have K5 := Lib.hid C5
  have K6 := Lib.hid C6
  have K7 := Lib.hid C7
  clear C1 C2 C3 C4 C5 C6 C7
  have H0 := below_new w (.cells #[.int .i64 4, .int .i64 4, .int .i64 6] 3)
  have S0 := Sl.made w #[.int .i64 4, .int .i64 4, .int .i64 6] 3
  go_enter Try.func25, Try.ntmps25
  go_wp2_with fail
  refine (entry_any _ _ _).mono ?_
  rintro e w1 ⟨rfl, hb1⟩
  go_wp2_with fail
  refine (entry_any _ _ _).mono ?_
  rintro e w2 ⟨rfl, hb2⟩
  go_wp2_with fail
  refine (entry_any _ _ _).mono ?_
  rintro e w3 ⟨rfl, hb3⟩
  go_wp2_with fail
  refine (entry_any _ _ _).mono ?_
  rintro e w4 ⟨rfl, hb4⟩
  have H4 := below_chain (below_chain (below_chain hb1 hb2 (Nat.le_refl _)) hb3 (Nat.le_refl _)) hb4 (Nat.le_refl _)
  have S4 := S0.step H4
  have H04 := below_chain H0 H4 (Nat.le_refl _)
  clear hb1 hb2 hb3 hb4 S0 H0 H4
  go_wp2_with fail
  refine (K1.out _ _ _ (S4.push _) (Sl.made _ _ _)).mono ?_
  rintro e w5 ⟨V1, d1, rfl, h51, h52, S5, hb5⟩
  have H5 := below_chain (H04.alloc H04.size _) hb5 (Nat.le_refl _)
  clear hb5 H04 S4
  go_wp2_with fail
  refine (entry_any _ _ _).mono ?_
  rintro e w6 ⟨rfl, hb6⟩
  go_wp2_with fail
  refine (entry_any _ _ _).mono ?_
  rintro e w7 ⟨rfl, hb7⟩
  have H67 := below_chain hb6 hb7 (Nat.le_refl _)
  have U7 := (Sl.made w5 #[.int .i64 4] 3).step H67
  have T7 := (S5.push _).step H67
  have H7 := below_chain (H5.alloc H5.size _) H67 (Nat.le_refl _)
  clear hb6 hb7 S5 H5 H67
  go_wp2_with fail
  refine (K2.out _ _ _ (U7.push _) (Sl.made _ _ _)).mono ?_
  rintro e w8 ⟨V2, d2, rfl, h81, h82, S8, hb8⟩
  have T8 := (T7.push _).step hb8
  have H8 := below_chain (H7.alloc H7.size _) hb8 (Nat.le_refl _)
  clear hb8 U7 T7 H7
  go_wp2_with fail
  refine (K3.out _ _ _ _ (T8.push _) (Sl.made _ _ _)).mono ?_
  rintro e w9 ⟨rfl, hb9⟩
  have T9 := (T8.push _).step hb9
  have S9 := (S8.push _).step hb9
  have H9 := below_chain (H8.alloc H8.size _) hb9 (Nat.le_refl _)
  clear hb9 T8 S8 H8
  go_wp2_with fail
  refine (K4.out _ _ _ _ (S9.push _) (Sl.made _ _ _)).mono ?_
  rintro e wa ⟨rfl, hba⟩
  have Ta := (T9.push _).step hba
  have Ha := below_chain (H9.alloc H9.size _) hba (Nat.le_refl _)
  clear hba T9 S9 H9
  go_wp2_with fail
  refine (K5.out _ _ _ Ta).mono ?_
  rintro e wb ⟨rfl, hbb⟩
  have Tb := Ta.step hbb
  have Hb := below_chain Ha hbb (Nat.le_refl _)
  clear hbb Ta Ha
  go_wp2_with fail
  refine (K6.out _ _ _ Tb).mono ?_
  rintro e wc ⟨rfl, hbc⟩
  have Hc := below_chain Hb hbc (Nat.le_refl _)
  clear hbc Tb Hb
  go_wp2_with fail
  refine (K7.out _ _ _ (Sl.made _ _ _)).mono ?_
  rintro e wd ⟨rfl, hwd⟩
  obtain rfl := hwd.symm
  go_wp2_with fail
  go_ret
  exact ⟨rfl, Hc.alloc Hc.size _⟩
end Go.Proofs.Ytmldkfmebplblaa.Ten
