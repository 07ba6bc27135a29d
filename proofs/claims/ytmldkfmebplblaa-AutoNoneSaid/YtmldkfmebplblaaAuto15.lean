/- Package auto: New, its blocks named; what Do turns; Check; the reference's Check. -/
import Derived.Test.YtmldkfmebplblaaAutoP
import Derived.Test.YtmldkfmebplblaaHeap
import Derived.Deep.RegionHeld3
namespace Go.Proofs.Ytmldkfmebplblaa.Aut
open Go.RowKit

theorem frame29 {a : Act} (h : a.tmps.size = 29) (hd : a.defers = []) : ∃ u : Nat → Value, a = { tmps := #[u 0, u 1, u 2, u 3, u 4, u 5, u 6, u 7, u 8, u 9, u 10, u 11, u 12, u 13, u 14, u 15, u 16, u 17, u 18, u 19, u 20, u 21, u 22, u 23, u 24, u 25, u 26, u 27, u 28], defers := [] } ∧ ∀ n, a.tmps.getD n undef = u n := by
  refine ⟨fun n => a.tmps.getD n undef, ?_, fun _ => rfl⟩
  have h1 := arr_lit a.tmps h
  cases a with
  | mk t d =>
    simp only at hd h1
    subst hd
    congr 1

theorem new_in (t : Int) (w : World) :
    Calls Try.prog 48 #[.int .i64 t] w fun e w' => e = .returned (.pointer (some ⟨w.heap.size + 1, 0, none⟩)) ∧ AutoIn w' (w.heap.size + 1) w.heap.size (List.replicate (som t) 0) ∧ w'.heap.size = w.heap.size + 1 + 1 ∧ Below w.heap.size w w' := by
  have hfin : ∀ c, Hid (AutoIn ((w.alloc (.cells (zerosA c) 3)).alloc (.cells #[.slice (some ⟨w.heap.size, 0, none⟩) c c] 74)) (w.heap.size + 1) w.heap.size (List.replicate c 0) ∧
      ((w.alloc (.cells (zerosA c) 3)).alloc (.cells #[.slice (some ⟨w.heap.size, 0, none⟩) c c] 74)).heap.size = w.heap.size + 1 + 1 ∧
      Below w.heap.size w ((w.alloc (.cells (zerosA c) 3)).alloc (.cells #[.slice (some ⟨w.heap.size, 0, none⟩) c c] 74))) := fun c => by
    refine Lib.hid ⟨⟨some ⟨w.heap.size, 0, none⟩, c, ?_, .inr ⟨rfl, by omega, ?_⟩⟩, by simp, (below_new _ _).alloc (by simp) _⟩
    · rw [List.length_replicate]
      exact heap_alloc2_new _ _ _
    · exact heap_alloc2_old _ _ _
  by_cases h0 : t ≤ 0
  · rw [show som t = 0 by unfold som; by_cases h : t < 0; rw [if_pos h]; rw [if_neg h, if_neg (by omega)]; omega]
    have hf := hfin 0
    clear hfin
    have hmk : ∀ W, (Instr.makeSlice 34 (.int .i64 0) (.int .i64 0)).run Try.prog W = .ok (.slice (some ⟨W.heap.size, 0, none⟩) 0 0) (W.alloc (.cells (zerosA 0) 3)) := fun W => make_zeros 0 (by omega) W
    have hm2 : t ≤ 32 := by omega
    by_cases h0 : t = 0
    all_goals
      go_enter Try.func48, Try.ntmps48
      go_wp2_with fail
      go_ret
      exact ⟨rfl, hf.out⟩
  · by_cases h1 : 32 < t
    · rw [show som t = 32 by unfold som; rw [if_neg (by omega), if_pos h1]]
      have hf := hfin 32
      clear hfin
      have hmk : ∀ W, (Instr.makeSlice 34 (.int .i64 32) (.int .i64 32)).run Try.prog W = .ok (.slice (some ⟨W.heap.size, 0, none⟩) 32 32) (W.alloc (.cells (zerosA 32) 3)) := fun W => make_zeros 32 (by omega) W
      go_enter Try.func48, Try.ntmps48
      go_wp2_with fail
      go_ret
      exact ⟨rfl, hf.out⟩
    · obtain ⟨c, rfl⟩ := Int.eq_ofNat_of_zero_le (show 0 ≤ t by omega)
      rw [show som c = c by unfold som; rw [if_neg (by omega), if_neg h1]; omega]
      have hf := hfin c
      clear hfin
      have hmk := fun W => make_zeros c (by omega) W
      have h1 : (c : Int) ≤ 32 := by omega
      have h2 : (0 : Int) ≤ (c : Int) := by omega
      go_enter Try.func48, Try.ntmps48
      go_wp2_with fail
      go_ret
      exact ⟨rfl, hf.out⟩

theorem DoneW.mod {w w' : World} {h : Nat} {e : Ev} (k : DoneW w h e w') : Mod [h] w w' := by
  obtain ⟨n, rfl | ⟨q, x, rfl⟩⟩ := k
  · exact ((Mod.refl _ _).alloc _).drewN n
  · exact (((Mod.refl _ _).alloc _).drewN n).setCell (by simp) _
theorem DoneW.below {w w' : World} {h B : Nat} {e : Ev} (k : DoneW w h e w') (hB : B ≤ h) (hs : B ≤ w.heap.size) : Below B w w' := k.mod.below hs (by simpa using hB)
theorem AutoIn.lt {w : World} {g h : Nat} {s : List Nat} (k : AutoIn w g h s) : g < w.heap.size := by
  obtain ⟨A, c, h1, _⟩ := k
  exact lt_of_blk h1
theorem AutoIn.below {w w' : World} {g h B : Nat} {s : List Nat} (k : AutoIn w g h s) (hb : Below B w w') (hg : g < B) (hh : h < B) : AutoIn w' g h s := by
  obtain ⟨A, c, h1, h2⟩ := k
  refine ⟨A, c, (hb.block g hg).trans h1, ?_⟩
  rcases h2 with h2 | ⟨a, b, c⟩
  · exact .inl h2
  · exact .inr ⟨a, b, (hb.block h hh).trans c⟩

/-- Check, in plain words. -/
def chkE (T : Int) (l : List Ev) : Nat × Nat := chk (fun j => rdo T (l.take j) (l.getD j default)) l.length
theorem getD_in {l : List Ev} {k : Nat} (h : k < l.length) : l.getD k default = l[k] := by simp [List.getD_eq_getElem?_getD, h]

theorem rdo_lt (T : Int) (l : List Ev) (e : Ev) : rdo T l e ≤ 7 := by
  unfold rdo
  repeat' split
  all_goals omega

def CkJ (T : Int) (l : List Ev) (A : Option Addr) (cap : Nat) (w : World) (a : Act) (w' : World) : Prop :=
  a.tmps.size = 29 ∧ a.defers = [] ∧ a.tmps.getD 1 undef = .slice A l.length cap ∧ a.tmps.getD 6 undef = .pointer (some ⟨w.heap.size + 1, 0, none⟩) ∧ a.tmps.getD 12 undef = .slice A l.length cap ∧ a.tmps.getD 13 undef = .int .i64 l.length ∧
    ∃ k : Nat, a.tmps.getD 14 undef = .int .i64 k ∧ k ≤ l.length ∧ (∀ j, j < k → rdo T (l.take j) (l.getD j default) = 0) ∧ AutoIn w' (w.heap.size + 1) w.heap.size (stOf (som T) (l.take k)) ∧ w.heap.size + 1 + 1 ≤ w'.heap.size ∧ Below w.heap.size w w'

set_option maxHeartbeats 1000000 in
theorem check_any (T : Int) (l : List Ev) (A : Option Addr) (cap : Nat) (w : World) (hm : l.length ≤ 9223372036854775807) (hs : Sl w w.heap.size A (l.flatMap decE)) :
    Calls Try.prog 55 #[.int .i64 T, .slice A l.length cap] w fun r w' => r = .returned (.tuple #[.int .i64 (chkE T l).1, .int .i64 (chkE T l).2]) ∧ Below w.heap.size w w' := by
  have hz : List.replicate (som T) 0 = stOf (som T) [] := by
    apply List.ext_getElem
    · simp [stOf]
    · intro i h1 h2
      simp [stOf, rstate]
  have HZ := Lib.hid hz
  clear hz
  have HC : Hid (chkE T l = chk (fun j => rdo T (l.take j) (l.getD j default)) l.length) := rfl
  go_enter Try.func55, Try.ntmps55
  go_wp2_with fail
  refine (new_in T _).mono ?_
  rintro e w1 ⟨rfl, hin, hsz1, hb⟩
  rw [HZ.out] at hin
  have hge : w.heap.size + 1 + 1 ≤ w1.heap.size := by omega
  clear hsz1
  go_wp2_with fail
  refine wp_loop (CkJ T l A cap w) (fun a' _ => l.length - (intOf (a'.tmps.getD 14 undef)).toNat) ?_ ?_
  · exact ⟨rfl, rfl, rfl, rfl, rfl, rfl, 0, rfl, Nat.zero_le _, by omega, by simpa using hin, hge, hb⟩
  · rintro a' w' ⟨hsz, hdf, s1, s6, s12, s13, k, s14, hk, hno, hin', hge', hb'⟩
    clear hin hge hb
    obtain ⟨u, rfl, hu⟩ := frame29 hsz hdf
    rw [hu] at s1 s6 s12 s13 s14
    simp only [s1, s6, s12, s13, s14]
    clear hsz hdf s1 s6 s12 s13 s14 hu
    have HN := Lib.hid hno
    clear hno
    by_cases hlt : k < l.length
    · obtain ⟨b, off, rfl, hbb, hcell⟩ := Sl_at (k := 4) (fun _ => rfl) (by omega) (hs.below hb') (by omega)
      have h0 := hcell k hlt 0 (by omega)
      have h1 := hcell k hlt 1 (by omega)
      have h2 := hcell k hlt 2 (by omega)
      have h3 := hcell k hlt 3 (by omega)
      simp only [decE, List.getElem?_cons_zero, List.getElem?_cons_succ, Nat.add_zero, ← Nat.add_assoc] at h0 h1 h2 h3
      have hd := fun W H => do_any (w.heap.size + 1) w.heap.size (stOf (som T) (l.take k)) l[k] W H (by rw [stOf_len]; have := som_le T; omega)
      have hr := do_ref T (l.take k) l[k]
      have hok := do_ok T (l.take k) l[k]
      have hle := rdo_lt T (l.take k) l[k]
      rw [List.take_append_getElem hlt] at hok
      simp only [hr] at hd
      have HD := Lib.hid hd
      have HO := Lib.hid hok
      have HG := Lib.hid (getD_in hlt)
      clear hcell hd hr hok
      obtain ⟨x, hx⟩ : ∃ x, rdo T (l.take k) l[k] = x := ⟨_, rfl⟩
      rw [hx] at HD HO hle
      have HX := Lib.hid hx
      clear hx
      by_cases hx0 : x = 0
      · have HO2 := Lib.hid (HO.out hx0)
        clear HO
        subst hx0
        go_wp2_with fail
        have hin2 := hin'.alloc (boxE l[k])
        have hb2 := hb'.alloc (by omega) (boxE l[k])
        have hge2 : w.heap.size + 1 + 1 ≤ (w'.alloc (boxE l[k])).heap.size := by simp; omega
        refine (HD.out _ hin2).mono ?_
        rintro r w2 ⟨rfl, hin3, hdone⟩
        rw [HO2.out] at hin3
        have hb3 := hb2.trans (hdone.below (Nat.le_refl _) (by omega))
        have hge3 : w.heap.size + 1 + 1 ≤ w2.heap.size := Nat.le_trans hge2 hdone.mod.size
        go_wp2_with fail
        exact ⟨⟨rfl, rfl, rfl, rfl, rfl, rfl, k + 1, rfl, hlt, fun j hj => by
          by_cases h : j < k
          · exact HN.out j h
          · obtain rfl : j = k := by omega
            rw [HG.out, HX.out], hin3, hge3, hb3⟩, by simp [intOf]; omega⟩
      · have e1 := nbne hx0
        have HE := Lib.hid (show chkE T l = (k, x) by rw [HC.out, chk_some hlt (by rw [HG.out, HX.out]; exact hx0) HN.out, HG.out, HX.out])
        go_wp2_with fail
        have hin2 := hin'.alloc (boxE l[k])
        have hb2 := hb'.alloc (by omega) (boxE l[k])
        refine (HD.out _ hin2).mono ?_
        rintro r w2 ⟨rfl, hin3, hdone⟩
        have hb3 := hb2.trans (hdone.below (Nat.le_refl _) (by simp; omega))
        clear hin3 hdone hin2 hb2
        go_wp2_with fail
        go_ret2
        rw [HE.out]
        exact ⟨rfl, hb3⟩
    · have HE := Lib.hid (show chkE T l = (l.length, 0) by rw [HC.out, chk_none (fun j hj => HN.out j (by omega))])
      go_wp2_with fail
      go_ret2
      rw [HE.out]
      exact ⟨rfl, hb'⟩
end Go.Proofs.Ytmldkfmebplblaa.Aut
