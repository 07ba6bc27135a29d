/- Layer 1's law: awake. -/
import Derived.Test.YtfdcojhgpfmloaaAl6
namespace Go.Proofs.Ytfdcojhgpfmloaa.Ara
open Go.RowKit

set_option maxHeartbeats 4000000 in
set_option maxRecDepth 100000 in
theorem awake_any (w : World) : Calls Try.prog 27 #[] w fun e w' => e = .returned (.bool true) ∧ Below w.heap.size w w' := by
  have q1 := fun W => eqOp 3 2 true W
  have q2 := fun x y xs ys W => eqGOp x y xs ys W
  go_enter Try.func27, Try.ntmps27
  go_wp2_with fail
  refine (new_at 3 _ ⟨[0, 0, 0], 0, 0, 0, 0, false⟩ (by decide +kernel)).mono ?_
  rintro e w1 ⟨rfl, hat⟩
  go_wp2_with fail
  refine (take_at _ _ _ _ ⟨[0, 0, 0], 2, 0, 0, 0, false⟩ hat 2 1 0 (by decide +kernel)).mono ?_
  rintro e wx ⟨rfl, hat, _⟩
  go_wp2_with fail
  refine (take_at _ _ _ _ ⟨[0, 0, 0], 2, 0, 0, 0, false⟩ hat 2 0 3 (by decide +kernel)).mono ?_
  rintro e wx ⟨rfl, hat, _⟩
  go_wp2_with fail
  refine (add_at _ _ _ _ ⟨[2, 0, 0], 2, 1, 5, 1, true⟩ hat (by decide) 1 2 2 (by decide +kernel) (by decide +kernel)).mono ?_
  rintro e wx ⟨rfl, hat, _⟩
  go_wp2_with fail
  refine (cas_at _ _ _ _ ⟨[7, 0, 0], 2, 2, 4, 1, true⟩ hat (by decide) 1 2 7 true (by decide +kernel) (by decide +kernel)).mono ?_
  rintro e wx ⟨rfl, hat, _⟩
  go_wp2_with fail
  refine (load_at _ _ _ _ ⟨[7, 0, 0], 2, 3, 1, 1, false⟩ hat (by decide) 1 7 (by decide +kernel) (by decide +kernel)).mono ?_
  rintro e wx ⟨rfl, hat, _⟩
  go_wp2_with fail
  refine (swap_at _ _ _ _ ⟨[7, 5, 0], 2, 4, 3, 2, true⟩ hat (by decide) 2 5 0 (by decide +kernel) (by decide +kernel)).mono ?_
  rintro e wx ⟨rfl, hat, _⟩
  go_wp2_with fail
  refine (words_any _ _ _ _ hat.1).mono ?_
  rintro e w2 ⟨v, rfl, hown, hb⟩
  have hat2 := hat.same hb
  obtain ⟨V, cv, rfl, _, _, SV⟩ := own_slice hown
  clear hat hb hown
  go_wp2_with fail
  have hat3 := hat2.same (below_new w2 (.cells #[.int .i64 7, .int .i64 5] 3))
  refine (same_tt [7, 5] V _ cv 2 _ (by simp) (by rw [flatI]; exact (show Sl w2 w2.heap.size V _ from SV).push _) (Sl.made w2 #[.int .i64 7, .int .i64 5] 3)).mono ?_
  rintro e w3 ⟨rfl, hb⟩
  have hat4 := hat3.same hb
  clear hat2 hat3 hb SV
  go_wp2_with fail
  refine (ops_any _ _ _ _ hat4.1).mono ?_
  rintro e wx ⟨rfl, hwx⟩
  obtain rfl := hwx.symm
  go_wp2_with fail
  refine (last_any _ _ _ _ hat4.1).mono ?_
  rintro e w4 ⟨rfl, hb⟩
  have hat5 := hat4.same hb
  clear hat4 hb
  go_wp2_with fail
  refine (len_any _ _ _ _ hat5.1).mono ?_
  rintro e wx ⟨rfl, hwx⟩
  obtain rfl := hwx.symm
  go_wp2_with fail
  go_ret
  exact ⟨rfl, hat5.2.2⟩
end Go.Proofs.Ytfdcojhgpfmloaa.Ara
