/- The reference's Check of layer 10. -/
import Derived.Test.YtmldkfmebplblaaAuto15
import Derived.StillTailTactics
namespace Go.Proofs.Ytmldkfmebplblaa.Aut
open Go.RowKit

def RckJ (T : Int) (l : List Ev) (A : Option Addr) (cap : Nat) (w : World) (a : Act) (w' : World) : Prop :=
  a.tmps.size = 29 ∧ a.defers = [] ∧ a.tmps.getD 0 undef = .int .i64 T ∧ a.tmps.getD 1 undef = .slice A l.length cap ∧
    ∃ k : Nat, a.tmps.getD 6 undef = .int .i64 k ∧ k ≤ l.length ∧ (∀ j, j < k → rdo T (l.take j) (l.getD j default) = 0) ∧ Below w.heap.size w w'

theorem Sl.take {w : World} {B : Nat} {A : Option Addr} {l : List Ev} (h : Sl w B A (l.flatMap decE)) (k : Nat) : Sl w B A ((l.take k).flatMap decE) := by
  rcases h with h | ⟨b, off, h1, h2, h3⟩
  · left
    have hl : l = [] := by
      cases l with
      | nil => rfl
      | cons x l => simp [decE] at h
    simp [hl]
  · right
    refine ⟨b, off, h1, h2, fun j hj => ?_⟩
    have hp : ((l.take k).flatMap decE) <+: (l.flatMap decE) := by
      conv => rhs; rw [← List.take_append_drop k l, List.flatMap_append]
      exact List.prefix_append _ _
    obtain ⟨t, ht⟩ := hp
    have hj2 : j < (l.flatMap decE).length := by rw [← ht, List.length_append]; omega
    rw [h3 j hj2]
    simp only [← ht, List.getElem_append_left hj]

set_option maxHeartbeats 1000000 in
theorem rcheck_any (T : Int) (l : List Ev) (A : Option Addr) (cap : Nat) (w : World) (hm : l.length ≤ 9223372036854775807) (hlc : l.length ≤ cap) (hcm : cap ≤ maxLen) (hs : Sl w w.heap.size A (l.flatMap decE)) :
    Calls Try.prog 56 #[.int .i64 T, .slice A l.length cap] w fun r w' => r = .returned (.tuple #[.int .i64 (chkE T l).1, .int .i64 (chkE T l).2]) ∧ Below w.heap.size w w' := by
  have HC : Hid (chkE T l = chk (fun j => rdo T (l.take j) (l.getD j default)) l.length) := rfl
  go_enter Try.func56, Try.ntmps56
  go_wp2_with fail
  refine wp_loop (RckJ T l A cap w) (fun a' _ => l.length - (intOf (a'.tmps.getD 6 undef)).toNat) ?_ ?_
  · exact ⟨rfl, rfl, rfl, rfl, 0, rfl, Nat.zero_le _, by omega, Below.refl _ _⟩
  · rintro a' w' ⟨hsz, hdf, s0, s1, k, s6, hk, hno, hb'⟩
    obtain ⟨u, rfl, hu⟩ := frame29 hsz hdf
    rw [hu] at s0 s1 s6
    simp only [s0, s1, s6]
    clear hsz hdf s0 s1 s6 hu
    have HN := Lib.hid hno
    clear hno
    by_cases hlt : k < l.length
    · have hs' := hs.step hb'
      have hd := fun W H => rdo_any T (l.take k) l[k] A cap W (by rw [List.length_take]; omega) H
      obtain ⟨b, off, rfl, hbb, hcell⟩ := Sl_at (k := 4) (fun _ => rfl) (by omega) (hs.below hb') (by omega)
      have h0 := hcell k hlt 0 (by omega)
      have h1 := hcell k hlt 1 (by omega)
      have h2 := hcell k hlt 2 (by omega)
      have h3 := hcell k hlt 3 (by omega)
      simp only [decE, List.getElem?_cons_zero, List.getElem?_cons_succ, Nat.add_zero, ← Nat.add_assoc] at h0 h1 h2 h3
      rw [show (l.take k).length = k by rw [List.length_take]; omega] at hd
      have HD := Lib.hid hd
      have HG := Lib.hid (getD_in hlt)
      clear hcell hd
      have hk1 : (k : Int) ≤ (l.length : Int) := by omega
      have hk2 : (k : Int) < (l.length : Int) := by omega
      have hk3 : (k : Int) ≤ (cap : Int) := by omega
      obtain ⟨x, hx⟩ : ∃ x, rdo T (l.take k) l[k] = x := ⟨_, rfl⟩
      rw [hx] at HD
      have HX := Lib.hid hx
      clear hx
      go_wp2_with fail
      go_still_tail 8, (by kernel_rfl)
      change wpList _ _ _ _ _ w'.drew
      have hs2 : Sl w'.drew w'.drew.heap.size (some ⟨b, off, none⟩) ((l.take k).flatMap decE) := Aut.Sl.take hs' k
      have hb2 : Below w.heap.size w w'.drew := hb'.drew
      generalize w'.drew = w2 at *
      go_wp2_with fail
      refine (HD.out _ hs2).mono ?_
      rintro r w3 ⟨rfl, n, hw3⟩
      have hb3 : Below w.heap.size w w3 := by rw [hw3]; exact below_drewN (hb2.alloc hb2.size _) n
      clear hw3
      by_cases hx0 : x = 0
      · subst hx0
        go_wp2_with fail
        exact ⟨⟨rfl, rfl, rfl, rfl, k + 1, rfl, hlt, fun j hj => by
          by_cases h : j < k
          · exact HN.out j h
          · obtain rfl : j = k := by omega
            rw [HG.out, HX.out], hb3⟩, by simp [intOf]; omega⟩
      · have e1 := nbne hx0
        have HE := Lib.hid (show chkE T l = (k, x) by rw [HC.out, chk_some hlt (by rw [HG.out, HX.out]; exact hx0) HN.out, HG.out, HX.out])
        go_wp2_with fail
        go_ret2
        rw [HE.out]
        exact ⟨rfl, hb3⟩
    · have HE := Lib.hid (show chkE T l = (l.length, 0) by rw [HC.out, chk_none (fun j hj => HN.out j (by omega))])
      go_wp2_with fail
      go_ret2
      rw [HE.out]
      exact ⟨rfl, hb'⟩
end Go.Proofs.Ytmldkfmebplblaa.Aut
