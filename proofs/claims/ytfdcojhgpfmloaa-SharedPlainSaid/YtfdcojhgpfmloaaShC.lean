/- Layer 11: both Checks. -/
import Derived.Test.YtfdcojhgpfmloaaShR2
import Derived.StillTailTactics
namespace Go.Proofs.Ytfdcojhgpfmloaa.Sha
open Go.RowKit

theorem frame29 {a : Act} (h : a.tmps.size = 29) (hd : a.defers = []) : ∃ u : Nat → Value, a = { tmps := #[u 0, u 1, u 2, u 3, u 4, u 5, u 6, u 7, u 8, u 9, u 10, u 11, u 12, u 13, u 14, u 15, u 16, u 17, u 18, u 19, u 20, u 21, u 22, u 23, u 24, u 25, u 26, u 27, u 28], defers := [] } ∧ ∀ n, a.tmps.getD n undef = u n := by
  refine ⟨fun n => a.tmps.getD n undef, ?_, fun _ => rfl⟩
  have h1 := arr_lit a.tmps h
  cases a with
  | mk t d =>
    simp only at hd h1
    subst hd
    congr 1
def chkE (T : Int) (l : List Ev) : Nat × Nat := chk (fun j => rdo T (l.take j) (l.getD j default)) l.length
theorem getD_in {l : List Ev} {k : Nat} (h : k < l.length) : l.getD k default = l[k] := by simp [List.getD_eq_getElem?_getD, h]

def CkJ (T : Int) (l : List Ev) (A : Option Addr) (cap : Nat) (w : World) (a : Act) (w' : World) : Prop :=
  a.tmps.size = 29 ∧ a.defers = [] ∧ a.tmps.getD 1 undef = .slice A l.length cap ∧ a.tmps.getD 6 undef = .pointer (some ⟨w.heap.size + 1, 0, none⟩) ∧ a.tmps.getD 12 undef = .slice A l.length cap ∧ a.tmps.getD 13 undef = .int .i64 l.length ∧
    ∃ k : Nat, a.tmps.getD 14 undef = .int .i64 k ∧ k ≤ l.length ∧ (∀ j, j < k → rdo T (l.take j) (l.getD j default) = 0) ∧ At w.heap.size w w' (stL (som T) (l.take k))

set_option maxHeartbeats 1000000 in
set_option maxRecDepth 100000 in
theorem check_any (T : Int) (l : List Ev) (A : Option Addr) (cap : Nat) (w : World) (hm : l.length ≤ 60) (hs : Sl w w.heap.size A (l.flatMap decE)) :
    Calls Try.prog 25 #[.int .i64 T, .slice A l.length cap] w fun r w' => r = .returned (.tuple #[.int .i64 (chkE T l).1, .int .i64 (chkE T l).2]) ∧ Below w.heap.size w w' := by
  have HC : Hid (chkE T l = chk (fun j => rdo T (l.take j) (l.getD j default)) l.length) := rfl
  go_enter Try.func25, Try.ntmps25
  go_wp2_with fail
  refine (new_any T _ _ (stL_nil (som T))).mono ?_
  rintro e w1 ⟨rfl, hat⟩
  go_wp2_with fail
  refine wp_loop (CkJ T l A cap w) (fun a' _ => l.length - (intOf (a'.tmps.getD 14 undef)).toNat) ?_ ?_
  · exact ⟨rfl, rfl, rfl, rfl, rfl, rfl, 0, rfl, Nat.zero_le _, by omega, by simpa using hat⟩
  · clear hat
    rintro a' w' ⟨hsz, hdf, s1, s6, s12, s13, k, s14, hk, hno, hat⟩
    obtain ⟨u, rfl, hu⟩ := frame29 hsz hdf
    rw [hu] at s1 s6 s12 s13 s14
    simp only [s1, s6, s12, s13, s14]
    clear hsz hdf s1 s6 s12 s13 s14 hu
    have HN := Lib.hid hno
    clear hno
    by_cases hlt : k < l.length
    · obtain ⟨b, off, rfl, hbb, hcell⟩ := Sl_at (k := 4) (fun _ => rfl) (by omega) (hs.below hat.2.2) (by omega)
      have h0 := hcell k hlt 0 (by omega)
      have h1 := hcell k hlt 1 (by omega)
      have h2 := hcell k hlt 2 (by omega)
      have h3 := hcell k hlt 3 (by omega)
      simp only [decE, List.getElem?_cons_zero, List.getElem?_cons_succ, Nat.add_zero, ← Nat.add_assoc] at h0 h1 h2 h3
      have hr := do_ref T (l.take k) l[k]
      have hok := do_ok T (l.take k) l[k]
      rw [List.take_append_getElem hlt] at hok
      have HG := Lib.hid (getD_in hlt)
      clear hcell
      obtain ⟨x, hx⟩ : ∃ x, rdo T (l.take k) l[k] = x := ⟨_, rfl⟩
      rw [hx] at hr hok
      have HX := Lib.hid hx
      have HR := Lib.hid hr
      clear hx hr
      by_cases hx0 : x = 0
      · have HO := Lib.hid (hok hx0)
        clear hok
        subst hx0
        go_wp2_with fail
        have hat1 := hat.alloc (.cells #[.int .i64 l[k].kind, .int .i64 l[k].thread, .bool l[k].read, .int .i64 l[k].count] 29)
        refine (do_at _ _ _ _ _ l[k] 0 hat1 (by rw [HR.out]; rfl) HO.out).mono ?_
        rintro r w2 ⟨rfl, hat2, _⟩
        go_wp2_with fail
        exact ⟨⟨rfl, rfl, rfl, rfl, rfl, rfl, k + 1, rfl, hlt, fun j hj => by
          by_cases h : j < k
          · exact HN.out j h
          · obtain rfl : j = k := by omega
            rw [HG.out, HX.out], hat2⟩, by simp [intOf]; omega⟩
      · clear hok
        have e1 := ibne (show ¬ (x : Int) = 0 by omega)
        have HE := Lib.hid (show chkE T l = (k, x) by rw [HC.out, chk_some hlt (by rw [HG.out, HX.out]; exact hx0) HN.out, HG.out, HX.out])
        go_wp2_with fail
        have hat1 := hat.alloc (.cells #[.int .i64 l[k].kind, .int .i64 l[k].thread, .bool l[k].read, .int .i64 l[k].count] 29)
        refine (do_at _ _ _ _ _ l[k] (x : Nat) hat1 (by rw [HR.out]) rfl).mono ?_
        rintro r w2 ⟨rfl, hat2, _⟩
        have hb3 := hat2.2.2
        clear hat1 hat2
        go_wp2_with fail
        go_ret2
        rw [HE.out]
        exact ⟨rfl, hb3⟩
    · have HE := Lib.hid (show chkE T l = (l.length, 0) by rw [HC.out, chk_none (fun j hj => HN.out j (by omega))])
      go_wp2_with fail
      go_ret2
      rw [HE.out]
      exact ⟨rfl, hat.2.2⟩

def RckJ (T : Int) (l : List Ev) (A : Option Addr) (cap : Nat) (w : World) (a : Act) (w' : World) : Prop :=
  a.tmps.size = 29 ∧ a.defers = [] ∧ a.tmps.getD 0 undef = .int .i64 T ∧ a.tmps.getD 1 undef = .slice A l.length cap ∧
    ∃ k : Nat, a.tmps.getD 6 undef = .int .i64 k ∧ k ≤ l.length ∧ (∀ j, j < k → rdo T (l.take j) (l.getD j default) = 0) ∧ Below w.heap.size w w'
theorem Sl.take {w : World} {B : Nat} {A : Option Addr} {l : List Ev} (h : Sl w B A (l.flatMap decE)) (k : Nat) : Sl w B A ((l.take k).flatMap decE) := by
  rcases h with h | ⟨b, off, h1, h2, h3⟩
  · left
    have hl : l = [] := by
      cases l with
      | nil => rfl
      | cons x l => simp [decE] at h
    simp [hl]
  · right
    refine ⟨b, off, h1, h2, fun j hj => ?_⟩
    have hp : ((l.take k).flatMap decE) <+: (l.flatMap decE) := by
      conv => rhs; rw [← List.take_append_drop k l, List.flatMap_append]
      exact List.prefix_append _ _
    obtain ⟨t, ht⟩ := hp
    have hj2 : j < (l.flatMap decE).length := by rw [← ht, List.length_append]; omega
    rw [h3 j hj2]
    simp only [← ht, List.getElem_append_left hj]

set_option maxHeartbeats 1000000 in
set_option maxRecDepth 100000 in
theorem rcheck_any (T : Int) (l : List Ev) (A : Option Addr) (cap : Nat) (w : World) (hm : l.length ≤ 60) (hlc : l.length ≤ cap) (hcm : cap ≤ maxLen) (hs : Sl w w.heap.size A (l.flatMap decE)) :
    Calls Try.prog 26 #[.int .i64 T, .slice A l.length cap] w fun r w' => r = .returned (.tuple #[.int .i64 (chkE T l).1, .int .i64 (chkE T l).2]) ∧ Below w.heap.size w w' := by
  have HC : Hid (chkE T l = chk (fun j => rdo T (l.take j) (l.getD j default)) l.length) := rfl
  go_enter Try.func26, Try.ntmps26
  go_wp2_with fail
  refine wp_loop (RckJ T l A cap w) (fun a' _ => l.length - (intOf (a'.tmps.getD 6 undef)).toNat) ?_ ?_
  · exact ⟨rfl, rfl, rfl, rfl, 0, rfl, Nat.zero_le _, by omega, Below.refl _ _⟩
  · rintro a' w' ⟨hsz, hdf, s0, s1, k, s6, hk, hno, hb'⟩
    obtain ⟨u, rfl, hu⟩ := frame29 hsz hdf
    rw [hu] at s0 s1 s6
    simp only [s0, s1, s6]
    clear hsz hdf s0 s1 s6 hu
    have HN := Lib.hid hno
    clear hno
    by_cases hlt : k < l.length
    · have hs' := hs.step hb'
      have hd := fun W H => rdo_any T (l.take k) A cap W (by rw [List.length_take]; omega) H l[k]
      obtain ⟨b, off, rfl, hbb, hcell⟩ := Sl_at (k := 4) (fun _ => rfl) (by omega) (hs.below hb') (by omega)
      have h0 := hcell k hlt 0 (by omega)
      have h1 := hcell k hlt 1 (by omega)
      have h2 := hcell k hlt 2 (by omega)
      have h3 := hcell k hlt 3 (by omega)
      simp only [decE, List.getElem?_cons_zero, List.getElem?_cons_succ, Nat.add_zero, ← Nat.add_assoc] at h0 h1 h2 h3
      rw [show (l.take k).length = k by rw [List.length_take]; omega] at hd
      have HD := Lib.hid hd
      have HG := Lib.hid (getD_in hlt)
      clear hcell hd
      have hk1 : (k : Int) ≤ (l.length : Int) := by omega
      have hk2 : (k : Int) < (l.length : Int) := by omega
      have hk3 : (k : Int) ≤ (cap : Int) := by omega
      obtain ⟨x, hx⟩ : ∃ x, rdo T (l.take k) l[k] = x := ⟨_, rfl⟩
      rw [hx] at HD
      have HX := Lib.hid hx
      clear hx
      go_wp2_with fail
      go_still_tail 8, (by kernel_rfl)
      change wpList _ _ _ _ _ w'.drew
      have hs2 : Sl w'.drew w'.drew.heap.size (some ⟨b, off, none⟩) ((l.take k).flatMap decE) := Sha.Sl.take hs' k
      have hb2 : Below w.heap.size w w'.drew := hb'.drew
      generalize w'.drew = w2 at *
      go_wp2_with fail
      refine (HD.out _ hs2).mono ?_
      rintro r w3 ⟨rfl, hb⟩
      have hb3 : Below w.heap.size w w3 := hb2.trans (hb.mono hb2.size)
      clear hb
      by_cases hx0 : x = 0
      · subst hx0
        go_wp2_with fail
        exact ⟨⟨rfl, rfl, rfl, rfl, k + 1, rfl, hlt, fun j hj => by
          by_cases h : j < k
          · exact HN.out j h
          · obtain rfl : j = k := by omega
            rw [HG.out, HX.out], hb3⟩, by simp [intOf]; omega⟩
      · have e1 := nbne hx0
        have HE := Lib.hid (show chkE T l = (k, x) by rw [HC.out, chk_some hlt (by rw [HG.out, HX.out]; exact hx0) HN.out, HG.out, HX.out])
        go_wp2_with fail
        go_ret2
        rw [HE.out]
        exact ⟨rfl, hb3⟩
    · have HE := Lib.hid (show chkE T l = (l.length, 0) by rw [HC.out, chk_none (fun j hj => HN.out j (by omega))])
      go_wp2_with fail
      go_ret2
      rw [HE.out]
      exact ⟨rfl, hb'⟩
theorem check_is (T : Int) (l : List Ev) (n : Nat) (a b : Int) (A : Option Addr) (cap : Nat) (w : World) (hn : l.length = n) (hm : n ≤ 60) (hs : Sl w w.heap.size A (l.flatMap decE)) (ha : ((chkE T l).1 : Int) = a) (hb : ((chkE T l).2 : Int) = b) :
    Calls Try.prog 25 #[.int .i64 T, .slice A n cap] w fun r w' => r = .returned (.tuple #[.int .i64 a, .int .i64 b]) ∧ Below w.heap.size w w' := by
  subst ha hb hn
  exact check_any T l A cap w hm hs
end Go.Proofs.Ytfdcojhgpfmloaa.Sha
