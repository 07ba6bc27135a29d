/- Layer 10: the lock within a law; awake. -/
import Derived.Test.YtmldkfmebplblaaAuto16
namespace Go.Proofs.Ytmldkfmebplblaa.Aut
open Go.RowKit

/-- In a law: a lock made behind W0, at s. -/
def At (B : Nat) (W0 W : World) (s : List Nat) : Prop := AutoIn W (B + 1) B s ∧ B + 1 + 1 ≤ W.heap.size ∧ Below B W0 W ∧ s.length ≤ 32
theorem At.mod {B : Nat} {W0 W W' : World} {s s' : List Nat} (h : At B W0 W s) (hi : AutoIn W' (B + 1) B s') (hm : Mod [B] W W') (hl : s'.length = s.length) : At B W0 W' s' :=
  ⟨hi, Nat.le_trans h.2.1 hm.size, hm.below_of h.2.2.1 (by have := h.2.1; omega) (by simp), by rw [hl]; exact h.2.2.2⟩
theorem At.same {B : Nat} {W0 W W' : World} {s : List Nat} (h : At B W0 W s) (hb : Below W.heap.size W W') : At B W0 W' s :=
  ⟨h.1.below hb (by have := h.2.1; omega) (by have := h.2.1; omega), Nat.le_trans h.2.1 hb.size, h.2.2.1.trans (hb.mono (by have := h.2.1; omega)), h.2.2.2⟩
theorem At.alloc {B : Nat} {W0 W : World} {s : List Nat} (h : At B W0 W s) (o : Obj) : At B W0 (W.alloc o) s := h.same (below_new _ _)

theorem new_any (t : Int) (w : World) (s : List Nat) (hs : List.replicate (som t) 0 = s) :
    Calls Try.prog 48 #[.int .i64 t] w fun e w' => e = .returned (.pointer (some ⟨w.heap.size + 1, 0, none⟩)) ∧ At w.heap.size w w' s := by
  subst hs
  refine (new_in t w).mono ?_
  rintro e w' ⟨rfl, h1, h2, h3⟩
  exact ⟨rfl, h1, by omega, h3, by rw [List.length_replicate]; exact som_le t⟩
theorem do_at (B : Nat) (W0 W : World) (s s' : List Nat) (e : Ev) (r : Int) (H : At B W0 W s) (h1 : ((doS s e).1 : Int) = r) (h2 : (doS s e).2 = s') :
    Calls Try.prog 49 #[.pointer (some ⟨B + 1, 0, none⟩), .agg (decE e).toArray] W fun x w' => x = .returned (.int .i64 r) ∧ At B W0 w' s' := by
  subst h1 h2
  refine (do_any (B + 1) B s e W H.1 (by have := H.2.2.2; omega)).mono ?_
  rintro x w' ⟨rfl, hi, hd⟩
  exact ⟨rfl, H.mod hi hd.mod (do_len s e)⟩
theorem holder_at (B : Nat) (W0 W : World) (s : List Nat) (r : Int) (H : At B W0 W s) (h1 : idxOf s 2 = r) :
    Calls Try.prog 51 #[.pointer (some ⟨B + 1, 0, none⟩)] W fun x w' => x = .returned (.int .i64 r) ∧ w' = W := by
  subst h1
  exact holder_any (B + 1) s W (by have := H.2.2.2; omega) H.1.at_
theorem state_at (B : Nat) (W0 W : World) (s : List Nat) (t r : Int) (H : At B W0 W s) (h1 : (stateOf s t : Int) = r) :
    Calls Try.prog 53 #[.pointer (some ⟨B + 1, 0, none⟩), .int .i64 t] W fun x w' => x = .returned (.int .i64 r) ∧ w' = W := by
  subst h1
  exact state_any (B + 1) s t W H.1.at_
theorem threads_at (B : Nat) (W0 W : World) (s : List Nat) (r : Int) (H : At B W0 W s) (h1 : (s.length : Int) = r) :
    Calls Try.prog 57 #[.pointer (some ⟨B + 1, 0, none⟩)] W fun x w' => x = .returned (.int .i64 r) ∧ w' = W := by
  subst h1
  exact threads_any (B + 1) s W H.1.at_
theorem check_is (T : Int) (l : List Ev) (n : Nat) (a b : Int) (A : Option Addr) (cap : Nat) (w : World) (hn : l.length = n) (hm : n ≤ 60) (hs : Sl w w.heap.size A (l.flatMap decE)) (ha : ((chkE T l).1 : Int) = a) (hb : ((chkE T l).2 : Int) = b) :
    Calls Try.prog 55 #[.int .i64 T, .slice A n cap] w fun r w' => r = .returned (.tuple #[.int .i64 a, .int .i64 b]) ∧ Below w.heap.size w w' := by
  subst ha hb hn
  exact check_any T l A cap w (by omega) hs


set_option maxHeartbeats 2000000 in
set_option maxRecDepth 100000 in
theorem awake_any (w : World) :
    Calls Try.prog 47 #[] w fun e w' => e = .returned (.bool true) ∧ Below w.heap.size w w' := by
  have HC := Lib.hid (fun (W : World) A (h : Sl W W.heap.size A (([⟨1, 0, false, 0⟩, ⟨3, 0, false, 0⟩] : List Ev).flatMap decE)) => check_is 1 [⟨1, 0, false, 0⟩, ⟨3, 0, false, 0⟩] 2 1 6 A 2 W rfl (by omega) h (by decide +kernel) (by decide +kernel))
  go_enter Try.func47, Try.ntmps47
  go_wp2_with fail
  refine (new_any 2 _ [0, 0] (by decide +kernel)).mono ?_
  rintro e w1 ⟨rfl, hin⟩
  go_wp2_with fail
  refine (do_at _ _ _ [0, 0] [1, 0] ⟨1, 0, false, 0⟩ 0 hin (by decide +kernel) (by decide +kernel)).mono ?_
  clear hin
  rintro e wx ⟨rfl, hin⟩
  go_wp2_with fail
  refine (do_at _ _ _ [1, 0] [1, 1] ⟨1, 1, false, 0⟩ 0 hin (by decide +kernel) (by decide +kernel)).mono ?_
  clear hin
  rintro e wx ⟨rfl, hin⟩
  go_wp2_with fail
  refine (do_at _ _ _ [1, 1] [1, 2] ⟨2, 1, false, 0⟩ 0 hin (by decide +kernel) (by decide +kernel)).mono ?_
  clear hin
  rintro e wx ⟨rfl, hin⟩
  go_wp2_with fail
  refine (do_at _ _ _ [1, 2] [1, 2] ⟨2, 0, false, 0⟩ 5 hin (by decide +kernel) (by decide +kernel)).mono ?_
  clear hin
  rintro e wx ⟨rfl, hin⟩
  go_wp2_with fail
  refine (do_at _ _ _ [1, 2] [1, 3] ⟨3, 1, false, 0⟩ 0 hin (by decide +kernel) (by decide +kernel)).mono ?_
  clear hin
  rintro e wx ⟨rfl, hin⟩
  go_wp2_with fail
  have hin := hin.alloc (.cells #[.int .i64 1, .int .i64 0, .bool false, .int .i64 0, .int .i64 3, .int .i64 0, .bool false, .int .i64 0] 46)
  refine (HC.out _ _ (Sl.made _ _ _)).mono ?_
  rintro e wx ⟨rfl, hb⟩
  have hin := hin.same hb
  clear hb
  go_wp2_with fail
  refine (holder_at _ _ _ [1, 3] (-1) hin (by decide +kernel)).mono ?_
  rintro e wx ⟨rfl, hwx⟩
  obtain rfl := hwx.symm
  go_wp2_with fail
  refine (state_at _ _ _ [1, 3] 0 1 hin (by decide +kernel)).mono ?_
  rintro e wx ⟨rfl, hwx⟩
  obtain rfl := hwx.symm
  go_wp2_with fail
  refine (state_at _ _ _ [1, 3] 1 3 hin (by decide +kernel)).mono ?_
  rintro e wx ⟨rfl, hwx⟩
  obtain rfl := hwx.symm
  go_wp2_with fail
  refine (threads_at _ _ _ [1, 3] 2 hin (by decide +kernel)).mono ?_
  rintro e wx ⟨rfl, hwx⟩
  obtain rfl := hwx.symm
  go_wp2_with fail
  go_ret
  exact ⟨rfl, hin.2.2.1⟩
end Go.Proofs.Ytmldkfmebplblaa.Aut
