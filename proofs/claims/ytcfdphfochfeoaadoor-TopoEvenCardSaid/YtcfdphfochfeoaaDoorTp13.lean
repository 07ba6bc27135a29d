/- The walk of layer 6's awake. -/
import Derived.Test.YtcfdphfochfeoaaDoorTp12
namespace Go.Proofs.YtcfdphfochfeoaaDoor.Tp
open Go.RowKit Go.Proofs.YtcfdphfochfeoaaDoor.Li Go.Proofs.YtcfdphfochfeoaaDoor.De Go.Proofs.YtcfdphfochfeoaaDoor.Ara
theorem nsm_any (l : List Int) (A C : Option Addr) (c1 c2 : Nat) (w : World) (hm : l.length ≤ 9223372036854775807) (hs : Sl w w.heap.size A (l.flatMap decI)) (ht : Sl w w.heap.size C (l.flatMap decI)) :
    Calls Tryd.prog 39 #[.slice A l.length c1, .slice C l.length c2] w fun e w' => e = .returned (.bool true) ∧ Below w.heap.size w w' := nsame_tt l A C c1 c2 w hm hs ht
/-- What awake has: two topologies in blocks of its own. -/
def AwS (w W : World) (g1 g5 : Nat) (A1 B1 A5 B5 : Option Addr) (c1 d1 c5 d5 : Nat) : Prop :=
  Below w.heap.size w W ∧ W.heap[g1]? = some (.cells #[.slice A1 3 c1, .slice B1 6 d1] 75 (0, 0)) ∧ W.heap[g5]? = some (.cells #[.slice A5 3 c5, .slice B5 6 d5] 75 (0, 0)) ∧
    Sl W W.heap.size A1 (([-1, 0, 0] : List Int).flatMap decI) ∧ Sl W W.heap.size B1 (([1, 1, 1, 2, 2, 2] : List Int).flatMap decI) ∧ Sl W W.heap.size A5 (([-1, 0, 0] : List Int).flatMap decI) ∧ Sl W W.heap.size B5 (([1, 1, 1, 2, 2, 2] : List Int).flatMap decI)
theorem AwS.step {w W V : World} {g1 g5 : Nat} {A1 B1 A5 B5 : Option Addr} {c1 d1 c5 d5 : Nat} (h : AwS w W g1 g5 A1 B1 A5 B5 c1 d1 c5 d5) (b : Below W.heap.size W V) : AwS w V g1 g5 A1 B1 A5 B5 c1 d1 c5 d5 :=
  ⟨nx h.1 b, (b.block _ (lt_of_blk h.2.1)).trans h.2.1, (b.block _ (lt_of_blk h.2.2.1)).trans h.2.2.1, h.2.2.2.1.step b, h.2.2.2.2.1.step b, h.2.2.2.2.2.1.step b, h.2.2.2.2.2.2.step b⟩
set_option maxRecDepth 100000 in
set_option maxHeartbeats 8000000 in
theorem awake_any (w : World) (ho : Ok w) : Calls Tryd.prog 62 #[] w fun e w' => e = .returned (.bool true) ∧ Below w.heap.size w w' := by
  have a1 : Hid (∀ A c W, Sl W W.heap.size A [.int .i64 2] → Calls Tryd.prog 73 #[.slice A 1 c, .int .i64 3] W fun e w' => ∃ A c B d, e = .returned (.tuple #[.agg #[.slice A 3 c, .slice B 6 d], .int .i64 0]) ∧ Sl w' w'.heap.size A (([-1, 0, 0] : List Int).flatMap decI) ∧ Sl w' w'.heap.size B (([1, 1, 1, 2, 2, 2] : List Int).flatMap decI) ∧ Below W.heap.size W w') := Lib.hid (fun A c W h => by
    have := even_any [2] A c 3 W (by decide) h
    rw [show evT [2] 3 = ((([-1, 0, 0] : List Int), ([1, 1, 1, 2, 2, 2] : List Int)), 0) by kernel_rfl] at this
    exact this)
  have a2 : Hid (∀ A c W, Sl W W.heap.size A [.int .i64 2, .int .i64 0] → Calls Tryd.prog 73 #[.slice A 2 c, .int .i64 3] W fun e w' => ∃ A c B d, e = .returned (.tuple #[.agg #[.slice A 0 c, .slice B 0 d], .int .i64 1]) ∧ Below W.heap.size W w') := Lib.hid (fun A c W h => by
    have := even_any [2, 0] A c 3 W (by decide) h
    rw [show evT [2, 0] 3 = (([], []), 1) by kernel_rfl] at this
    refine this.mono ?_
    rintro e w' ⟨A, c, B, d, h1, _, _, h2⟩
    exact ⟨A, c, B, d, h1, h2⟩)
  have a3 : Hid (∀ W, Ok W → Calls Tryd.prog 75 #[.string ⟨#[110, 111, 100, 101, 115, 32, 45, 49, 44, 48, 44, 48, 10, 116, 104, 114, 101, 97, 100, 115, 32, 49, 44, 49, 44, 49, 44, 50, 44, 50, 44, 50, 10]⟩] W fun e w' => ∃ A c B d, e = .returned (.tuple #[.agg #[.slice A 3 c, .slice B 6 d], .int .i64 0]) ∧ Sl w' w'.heap.size A (([-1, 0, 0] : List Int).flatMap decI) ∧ Sl w' w'.heap.size B (([1, 1, 1, 2, 2, 2] : List Int).flatMap decI) ∧ Below W.heap.size W w') := Lib.hid (fun W hW => by
    have := parse_any [110, 111, 100, 101, 115, 32, 45, 49, 44, 48, 44, 48, 10, 116, 104, 114, 101, 97, 100, 115, 32, 49, 44, 49, 44, 49, 44, 50, 44, 50, 44, 50, 10] (by decide) W hW
    rw [show psT [110, 111, 100, 101, 115, 32, 45, 49, 44, 48, 44, 48, 10, 116, 104, 114, 101, 97, 100, 115, 32, 49, 44, 49, 44, 49, 44, 50, 44, 50, 44, 50, 10] = ((([-1, 0, 0] : List Int), ([1, 1, 1, 2, 2, 2] : List Int)), 0) by kernel_rfl] at this
    exact this)
  have a4 := Lib.hid (fun A C c1 c2 W => nsm_any ([-1, 0, 0] : List Int) A C c1 c2 W (by decide))
  have a5 := Lib.hid (fun A C c1 c2 W => nsm_any ([1, 1, 1, 2, 2, 2] : List Int) A C c1 c2 W (by decide))
  have a6 : Hid (∀ A B A2 B2 c d c2 d2 W, Sl W W.heap.size A (([-1, 0, 0] : List Int).flatMap decI) → Sl W W.heap.size B (([1, 1, 1, 2, 2, 2] : List Int).flatMap decI) → Sl W W.heap.size A2 (([-1, 0, 0] : List Int).flatMap decI) → Sl W W.heap.size B2 (([1, 1, 1, 2, 2, 2] : List Int).flatMap decI) → Calls Tryd.prog 71 #[.agg #[.slice A 3 c, .slice B 6 d], .agg #[.slice A2 3 c2, .slice B2 6 d2]] W fun e w' => e = .returned (.bool true) ∧ Below W.heap.size W w') := Lib.hid (fun A B A2 B2 c d c2 d2 W h1 h2 h3 h4 => by
    have := tsame_any ([-1, 0, 0] : List Int) ([1, 1, 1, 2, 2, 2] : List Int) ([-1, 0, 0] : List Int) ([1, 1, 1, 2, 2, 2] : List Int) A B A2 B2 c d c2 d2 W (by decide) (by decide) (by decide) (by decide) h1 h2 h3 h4
    rw [decide_eq_true ⟨rfl, rfl⟩] at this
    exact this)
  have a7 : Hid (∀ A B c d W, Sl W W.heap.size A (([-1, 0, 0] : List Int).flatMap decI) → Sl W W.heap.size B (([1, 1, 1, 2, 2, 2] : List Int).flatMap decI) → Calls Tryd.prog 67 #[.agg #[.slice A 3 c, .slice B 6 d]] W fun e w' => e = .returned (.int .i64 2) ∧ Below W.heap.size W w') := Lib.hid (fun A B c d W h1 h2 => by
    have := depth_any ([-1, 0, 0] : List Int) ([1, 1, 1, 2, 2, 2] : List Int) A B c d W (by decide) (by decide) h1 h2
    rw [show dpT ([-1, 0, 0] : List Int) ([1, 1, 1, 2, 2, 2] : List Int) = 2 by kernel_rfl] at this
    exact this)
  have a8 : Hid (∀ A B c d W, Sl W W.heap.size A (([-1, 0, 0] : List Int).flatMap decI) → Sl W W.heap.size B (([1, 1, 1, 2, 2, 2] : List Int).flatMap decI) → Calls Tryd.prog 65 #[.agg #[.slice A 3 c, .slice B 6 d]] W fun e w' => ∃ E k, e = .returned (.slice E 2 k) ∧ Sl w' w'.heap.size E (([1, 2] : List Int).flatMap decI) ∧ Below W.heap.size W w') := Lib.hid (fun A B c d W h1 h2 => by
    have := tleaves_any ([-1, 0, 0] : List Int) ([1, 1, 1, 2, 2, 2] : List Int) A B c d W (by decide) (by decide) h1 h2
    rw [show lvT ([-1, 0, 0] : List Int) ([1, 1, 1, 2, 2, 2] : List Int) = [1, 2] by kernel_rfl] at this
    exact this)
  have a9 : Hid (∀ A B c d W, Sl W W.heap.size A [.int .i64 0] → Sl W W.heap.size B [.int .i64 0] → Calls Tryd.prog 63 #[.agg #[.slice A 1 c, .slice B 1 d]] W fun e w' => e = .returned (.int .i64 9) ∧ Below W.heap.size W w') := Lib.hid (fun A B c d W h1 h2 => by
    have := check_any [0] [0] A B c d W (by decide) (by decide) h1 h2
    rw [show chk [0] [0] = 9 by kernel_rfl] at this
    exact this)
  have a10 : Hid (∀ A B c d W, Sl W W.heap.size A (([-1, 0, 0] : List Int).flatMap decI) → Sl W W.heap.size B (([1, 1, 1, 2, 2, 2] : List Int).flatMap decI) → Calls Tryd.prog 69 #[.agg #[.slice A 3 c, .slice B 6 d]] W fun e w' => e = .returned (vS [110, 111, 100, 101, 115, 32, 45, 49, 44, 48, 44, 48, 10, 116, 104, 114, 101, 97, 100, 115, 32, 49, 44, 49, 44, 49, 44, 50, 44, 50, 44, 50, 10]) ∧ Below W.heap.size W w') := Lib.hid (fun A B c d W h1 h2 => by
    have := ttext_any ([-1, 0, 0] : List Int) ([1, 1, 1, 2, 2, 2] : List Int) A B c d W (by decide) (by decide) h1 h2
    rw [show txT ([-1, 0, 0] : List Int) ([1, 1, 1, 2, 2, 2] : List Int) = [110, 111, 100, 101, 115, 32, 45, 49, 44, 48, 44, 48, 10, 116, 104, 114, 101, 97, 100, 115, 32, 49, 44, 49, 44, 49, 44, 50, 44, 50, 44, 50, 10] by kernel_rfl] at this
    exact this)
  have a11 := Lib.hid (fun A C c1 c2 W => nsm_any [1, 2] A C c1 c2 W (by decide))
  go_enter Tryd.func62, Tryd.ntmps62
  go_wp2_with fail
  refine (a1.out _ _ _ (Sl.made w _ _)).mono ?_
  rintro e w1 ⟨A1, c1, B1, d1, rfl, sA, sB, b1⟩
  have B1' := Lib.hid (nx (below_new _ _) b1)
  have SA := Lib.hid (sA.push (.cells #[.slice A1 3 c1, .slice B1 6 d1] 75))
  have SB := Lib.hid (sB.push (.cells #[.slice A1 3 c1, .slice B1 6 d1] 75))
  have B2' := Lib.hid (nx B1'.out (below_new w1 (.cells #[.slice A1 3 c1, .slice B1 6 d1] 75)))
  have K1 := Lib.hid (blk_new w1 (.cells #[.slice A1 3 c1, .slice B1 6 d1] 75))
  clear sA sB b1 B1'
  go_upto_region 2 with fail
  generalize w1.alloc (.cells #[.slice A1 3 c1, .slice B1 6 d1] 75) = V1 at *
  go_wp2_with fail
  refine (a2.out _ _ _ (Sl.made V1 _ _)).mono ?_
  rintro e w2 ⟨A2, c2, B2, d2, rfl, b2⟩
  have b3 := (nx (nx (below_new _ _) b2) (below_new w2 (.cells #[.slice A2 0 c2, .slice B2 0 d2] 75)))
  have SA := Lib.hid (SA.out.step b3)
  have SB := Lib.hid (SB.out.step b3)
  have B3' := Lib.hid (nx B2'.out b3)
  have K1 := Lib.hid ((b3.block _ (lt_of_blk K1.out)).trans K1.out)
  clear b2 b3 B2'
  go_upto_region 3 with fail
  generalize w2.alloc (.cells #[.slice A2 0 c2, .slice B2 0 d2] 75) = V2 at *
  have O2 := Lib.hid (ho.step B3'.out)
  go_wp2_with fail
  refine (a3.out _ O2.out).mono ?_
  rintro e w3 ⟨A5, c5, B5, d5, rfl, sU, sV, b3⟩
  have b4 := nx b3 (below_new w3 (.cells #[.slice A5 3 c5, .slice B5 6 d5] 75))
  have H4 : Hid (AwS w (w3.alloc (.cells #[.slice A5 3 c5, .slice B5 6 d5] 75)) w1.heap.size w3.heap.size A1 B1 A5 B5 c1 d1 c5 d5) :=
    Lib.hid ⟨nx B3'.out b4, (b4.block _ (lt_of_blk K1.out)).trans K1.out, blk_new _ _, SA.out.step b4, SB.out.step b4, sU.push _, sV.push _⟩
  clear b3 b4 sU sV SA SB K1 B3' O2
  go_upto_region 4 with fail
  generalize w3.alloc (.cells #[.slice A5 3 c5, .slice B5 6 d5] 75) = V3 at *
  have k0 := blk_cell H4.out.2.1 0 (by simp)
  have k1 := blk_cell H4.out.2.1 1 (by simp)
  have l0 := blk_cell H4.out.2.2.1 0 (by simp)
  have l1 := blk_cell H4.out.2.2.1 1 (by simp)
  go_wp2_with fail
  refine (a4.out _ _ _ _ _ (H4.out.2.2.2.1.push _) (Sl.made V3 _ _)).mono ?_
  rintro e w4 ⟨rfl, b4⟩
  have H5 := Lib.hid (H4.out.step (nx (below_new _ _) b4))
  clear k0 k1 l0 l1
  clear b4
  have k0 := blk_cell H5.out.2.1 0 (by simp)
  have k1 := blk_cell H5.out.2.1 1 (by simp)
  have l0 := blk_cell H5.out.2.2.1 0 (by simp)
  have l1 := blk_cell H5.out.2.2.1 1 (by simp)
  go_wp2_with fail
  refine (a5.out _ _ _ _ _ (H5.out.2.2.2.2.1.push _) (Sl.made w4 _ _)).mono ?_
  rintro e w5 ⟨rfl, b5⟩
  have H6 := Lib.hid (H5.out.step (nx (below_new _ _) b5))
  clear k0 k1 l0 l1
  clear b5
  have k0 := blk_cell H6.out.2.1 0 (by simp)
  have k1 := blk_cell H6.out.2.1 1 (by simp)
  have l0 := blk_cell H6.out.2.2.1 0 (by simp)
  have l1 := blk_cell H6.out.2.2.1 1 (by simp)
  go_wp2_with fail
  refine (a6.out _ _ _ _ _ _ _ _ _ H6.out.2.2.2.1 H6.out.2.2.2.2.1 H6.out.2.2.2.2.2.1 H6.out.2.2.2.2.2.2).mono ?_
  rintro e w6 ⟨rfl, b6⟩
  have H7 := Lib.hid (H6.out.step b6)
  clear k0 k1 l0 l1
  clear b6
  have k0 := blk_cell H7.out.2.1 0 (by simp)
  have k1 := blk_cell H7.out.2.1 1 (by simp)
  have l0 := blk_cell H7.out.2.2.1 0 (by simp)
  have l1 := blk_cell H7.out.2.2.1 1 (by simp)
  go_wp2_with fail
  refine (a7.out _ _ _ _ _ H7.out.2.2.2.1 H7.out.2.2.2.2.1).mono ?_
  rintro e w7 ⟨rfl, b7⟩
  have H8 := Lib.hid (H7.out.step b7)
  clear k0 k1 l0 l1
  clear b7
  have k0 := blk_cell H8.out.2.1 0 (by simp)
  have k1 := blk_cell H8.out.2.1 1 (by simp)
  have l0 := blk_cell H8.out.2.2.1 0 (by simp)
  have l1 := blk_cell H8.out.2.2.1 1 (by simp)
  go_wp2_with fail
  refine (a8.out _ _ _ _ _ H8.out.2.2.2.1 H8.out.2.2.2.2.1).mono ?_
  rintro e w8 ⟨E8, k8, rfl, s8, b8⟩
  have H9 := Lib.hid (H8.out.step b8)
  have S8 := Lib.hid s8
  clear k0 k1 l0 l1
  clear b8 s8
  have k0 := blk_cell H9.out.2.1 0 (by simp)
  have k1 := blk_cell H9.out.2.1 1 (by simp)
  have l0 := blk_cell H9.out.2.2.1 0 (by simp)
  have l1 := blk_cell H9.out.2.2.1 1 (by simp)
  go_wp2_with fail
  refine (a11.out _ _ _ _ _ (S8.out.push _) (Sl.made w8 _ _)).mono ?_
  rintro e w9 ⟨rfl, b9⟩
  have H10 := Lib.hid (H9.out.step (nx (below_new _ _) b9))
  clear k0 k1 l0 l1
  clear b9
  have k0 := blk_cell H10.out.2.1 0 (by simp)
  have k1 := blk_cell H10.out.2.1 1 (by simp)
  have l0 := blk_cell H10.out.2.2.1 0 (by simp)
  have l1 := blk_cell H10.out.2.2.1 1 (by simp)
  go_wp2_with fail
  have hq : (w9.alloc (.cells #[.int .i64 0] 3)).heap.size = w9.heap.size + 1 := by simp
  have q1 := (Sl.made w9 #[.int .i64 0] 3).push (.cells #[.int .i64 0] 3)
  have q2 := Sl.made (w9.alloc (.cells #[.int .i64 0] 3)) #[.int .i64 0] 3
  rw [hq] at q2
  have bq := nx (below_new w9 (.cells #[.int .i64 0] 3)) (below_new (w9.alloc (.cells #[.int .i64 0] 3)) (.cells #[.int .i64 0] 3))
  generalize (w9.alloc (.cells #[.int .i64 0] 3)).alloc (.cells #[.int .i64 0] 3) = V9 at *
  refine (a9.out _ _ _ _ _ q1 q2).mono ?_
  rintro e w10 ⟨rfl, b10⟩
  have H11 := Lib.hid (H10.out.step (nx bq b10))
  clear bq q1 q2 hq
  clear k0 k1 l0 l1
  clear b10
  have k0 := blk_cell H11.out.2.1 0 (by simp)
  have k1 := blk_cell H11.out.2.1 1 (by simp)
  have l0 := blk_cell H11.out.2.2.1 0 (by simp)
  have l1 := blk_cell H11.out.2.2.1 1 (by simp)
  go_wp2_with fail
  refine (a10.out _ _ _ _ _ H11.out.2.2.2.1 H11.out.2.2.2.2.1).mono ?_
  rintro e w11 ⟨rfl, b11⟩
  have B12 := Lib.hid (nx H11.out.1 b11)
  clear k0 k1 l0 l1
  clear b11
  go_wp2_with fail
  go_ret
  refine ⟨?_, B12.out⟩
  rfl
end Go.Proofs.YtcfdphfochfeoaaDoor.Tp
