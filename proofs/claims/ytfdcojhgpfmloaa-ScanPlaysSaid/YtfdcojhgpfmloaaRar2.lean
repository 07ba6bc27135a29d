/- The reference's arena: New, Take, Load .. Add. -/
import Derived.Test.YtfdcojhgpfmloaaRar1
namespace Go.Proofs.Ytfdcojhgpfmloaa.Ara
open Go.RowKit

theorem frame43 {a : Act} (h : a.tmps.size = 43) (hd : a.defers = []) : ∃ u : Nat → Value, a = { tmps := #[u 0, u 1, u 2, u 3, u 4, u 5, u 6, u 7, u 8, u 9, u 10, u 11, u 12, u 13, u 14, u 15, u 16, u 17, u 18, u 19, u 20, u 21, u 22, u 23, u 24, u 25, u 26, u 27, u 28, u 29, u 30, u 31, u 32, u 33, u 34, u 35, u 36, u 37, u 38, u 39, u 40, u 41, u 42], defers := [] } ∧ ∀ n, a.tmps.getD n undef = u n := by
  refine ⟨fun n => a.tmps.getD n undef, ?_, fun _ => rfl⟩
  have h1 := arr_lit a.tmps h
  cases a with
  | mk t d =>
    simp only at hd h1
    subst hd
    congr 1
theorem rnew_any (t : Int) (w : World) : Calls Try.prog 29 #[.int .i64 t] w fun e w' => e = .returned (.pointer (some ⟨w.heap.size, 0, none⟩)) ∧ RfAt w' w.heap.size (w.heap.size + 1) ⟨room t, [], 0, 0, 0, false⟩ ∧ w'.heap.size = w.heap.size + 1 ∧ Below w.heap.size w w' := by
  have hfin : ∀ c : Nat, c ≤ 4096 → Hid (RfAt (w.alloc (.cells #[.int .i64 c, .slice none 0 0, .int .i64 0, .int .i64 0, .int .i64 0, .bool false] 89)) w.heap.size (w.heap.size + 1) ⟨c, [], 0, 0, 0, false⟩ ∧
      (w.alloc (.cells #[.int .i64 c, .slice none 0 0, .int .i64 0, .int .i64 0, .int .i64 0, .bool false] 89)).heap.size = w.heap.size + 1 ∧ Below w.heap.size w (w.alloc (.cells #[.int .i64 c, .slice none 0 0, .int .i64 0, .int .i64 0, .int .i64 0, .bool false] 89))) := fun c hc =>
    Lib.hid ⟨⟨by omega, by simp, by simp, ⟨Int.natCast_nonneg c, by show (c : Int) ≤ 4096; omega⟩, by simp, .slice none 0 0, blk_new _ _, World.ownsRow_nil _ _ _ _⟩, by simp, below_new _ _⟩
  by_cases h0 : t < 0
  · rw [show room t = 0 by unfold room; rw [if_pos h0]]
    have hf := hfin 0 (by omega)
    clear hfin
    go_enter Try.func29, Try.ntmps29
    go_wp2_with fail
    go_ret
    exact ⟨rfl, hf.out⟩
  · by_cases h1 : 4096 < t
    · rw [show room t = 4096 by unfold room; rw [if_neg (by omega), if_pos h1]]
      have hf := hfin 4096 (by omega)
      clear hfin
      go_enter Try.func29, Try.ntmps29
      go_wp2_with fail
      go_ret
      exact ⟨rfl, hf.out⟩
    · obtain ⟨c, rfl⟩ := Int.eq_ofNat_of_zero_le (show 0 ≤ t by omega)
      rw [show room c = c by unfold room; rw [if_neg (by omega), if_neg h1]; omega]
      have hf := hfin c (by omega)
      clear hfin
      go_enter Try.func29, Try.ntmps29
      go_wp2_with fail
      go_ret
      exact ⟨rfl, hf.out⟩

def Rf.take (ρ : Rf) (n : Int) : (Int × Int) × Rf :=
  if n < 0 then ((0, 1), ρ) else if ρ.room - ρ.ws.length < n then ((0, 3), ρ) else (((ρ.ws.length : Int) + 1, 0), { ρ with ws := ρ.ws ++ List.replicate n.toNat 0 })
theorem RfAt.grow {W W3 : World} {g base : Nat} {ρ : Rf} {v : Value} (k : RfAt W g base ρ) (hb : Below base W W3) (hl : ρ.ws.length + 1 ≤ 4096) (hown : W3.ownsRow base 3 1 v (ρ.ws.length + 1) (ρ.ws.map vI ++ [.int .i64 0])) :
    RfAt (W3.setCell ⟨g, 1, none⟩ v) g base { ρ with ws := ρ.ws ++ [0] } := by
  obtain ⟨h1, hz, h2, h3, h4, v0, h5, h6⟩ := k
  refine ⟨h1, by have := hb.size; simp [World.setCell]; omega, by simpa using hl, h3, h4, v, ?_, ?_⟩
  · rw [blk_set ((hb.block g h1).trans h5)]
    rfl
  · have := ownsRow_setCell_below hown (a := ⟨g, 1, none⟩) h1 v
    simpa [vI] using this

def TkJ (g base : Nat) (ρ : Rf) (n : Nat) (w : World) (a : Act) (W : World) : Prop :=
  a.tmps.size = 43 ∧ a.defers = [] ∧ a.tmps.getD 0 undef = .pointer (some ⟨g, 0, none⟩) ∧ a.tmps.getD 1 undef = .int .i64 n ∧ a.tmps.getD 6 undef = .int .i64 ((ρ.ws.length : Int) + 1) ∧
    ∃ k : Nat, a.tmps.getD 7 undef = .int .i64 k ∧ k ≤ n ∧ RfAt W g base { ρ with ws := ρ.ws ++ List.replicate k 0 } ∧ RMod base g w W
set_option maxHeartbeats 1000000 in
set_option maxRecDepth 100000 in
theorem rtake_any (g base : Nat) (ρ : Rf) (w : World) (H : RfAt w g base ρ) (n : Int) : Calls Try.prog 72 #[.pointer (some ⟨g, 0, none⟩), .int .i64 n] w fun e w' => e = .returned (.tuple #[.int .i64 (ρ.take n).1.1, .int .i64 (ρ.take n).1.2]) ∧ RfAt w' g base (ρ.take n).2 ∧ RMod base g w w' := by
  unfold Rf.take
  have HH := Lib.hid H
  by_cases h0 : n < 0
  · rw [if_pos h0]
    clear H
    go_enter Try.func72, Try.ntmps72
    go_wp2_with fail
    go_ret2
    exact ⟨rfl, HH.out, RMod.of_mod (Mod.refl _ _)⟩
  rw [if_neg h0]
  obtain ⟨m, rfl⟩ := Int.eq_ofNat_of_zero_le (show 0 ≤ n by omega)
  obtain ⟨A, c, g0, g1, _, _, _, _, _, hc1, hc2, _⟩ := H.slot
  have hl := H.2.2.1
  have hr := H.2.2.2.1
  obtain ⟨hr1, hr2⟩ := hr
  have b0 : (ρ.ws.length : Int) ≤ 4096 := by omega
  clear H
  by_cases h1 : ρ.room - ρ.ws.length < (m : Int)
  · rw [if_pos h1]
    go_enter Try.func72, Try.ntmps72
    go_wp2_with fail
    go_quiet (fail)
    go_wp2_with fail
    go_ret2
    exact ⟨rfl, HH.out.drewN _, RMod.of_mod ((Mod.refl _ _).drewN _)⟩
  · rw [if_neg h1]
    have b2 : (m : Int) ≤ 4096 := by omega
    go_enter Try.func72, Try.ntmps72
    go_wp2_with fail
    go_quiet (fail)
    go_wp2_with fail
    refine wp_loop (TkJ g base ρ m w) (fun a' _ => m - (intOf (a'.tmps.getD 7 undef)).toNat) ?_ ?_
    · exact ⟨rfl, rfl, rfl, rfl, rfl, 0, rfl, Nat.zero_le _, by simpa using HH.out.drewN _, (RMod.refl _ _ _).drewN _⟩
    · clear g0 g1 HH hc1 hc2
      rintro a' W ⟨hsz, hdf, s0, s1, s6, k, s7, hk, hR, hu⟩
      obtain ⟨u, rfl, hu⟩ := frame43 hsz hdf
      rw [hu] at s0 s1 s6 s7
      simp only [s0, s1, s6, s7]
      clear hsz hdf s0 s1 s6 s7 hu
      by_cases hlt : k < m
      · have hln := Lib.hid (show (ρ.ws ++ List.replicate k (0 : Int)).length = ρ.ws.length + k by simp)
        have hsn := Lib.hid (show ρ.ws ++ List.replicate (k + 1) (0 : Int) = (ρ.ws ++ List.replicate k 0) ++ [0] by rw [List.replicate_succ', List.append_assoc])
        have hll : (ρ.ws ++ List.replicate k (0 : Int)).length + 1 ≤ 4096 := by rw [hln.out]; omega
        have hgb := hR.1
        have hbz := hR.2.1
        obtain ⟨A, c, _, q1, _, _, _, _, gf, _, _, hown⟩ := hR.slot
        simp only at q1 hown
        have HR := Lib.hid hR
        have HU := Lib.hid hu
        have f1 := gf 1
        have hownH := Lib.hid hown
        clear hR hu gf
        generalize ρ.ws ++ List.replicate k (0 : Int) = ws at *
        go_wp2_with (at_builtin; refine wpList_append1 (.tmp 37) (.tmp 38) 63 3 _ 1 8 rfl rfl Try.underlying63 infoI rfl (by decide) base _ _ _ _ _ _ _ _ hown rfl rfl ?cg rfl ?d1 ?d2 ?d3 ?d4 ?ck; case' ck => intro v' W3 hown3 hb3 hgr; have q2 := (hb3.cell (p := ⟨g, 1, none⟩) hgb).trans q1; have f2 := (hb3.frozen (p := ⟨g, 1, none⟩) hgb).trans f1; obtain ⟨A3, c3, rfl, _, _, _⟩ := own_slice hown3)
        case cg => first | rfl | simp
        case d1 => simp [Value.oneCell']
        case d2 => simp only [maxLen]; omega
        case d3 => omega
        try (case d4 => exact hbz)
        have hf := HR.out.grow hb3 hll (by simpa using hown3)
        exact ⟨⟨rfl, rfl, rfl, rfl, rfl, k + 1, rfl, hlt, by rw [hsn.out]; exact hf, (HU.out.trans ((RMod.grown (RMod.refl _ _ _) hownH.out hgr).trans (RMod.of_mod ((Mod.refl _ _).setCell (by simp) _))))⟩, by simp [intOf]; omega⟩
      · obtain rfl : k = m := by omega
        have HR := Lib.hid hR
        go_wp2_with fail
        go_ret2
        exact ⟨rfl, by simpa using HR.out, hu⟩

section
variable (g base : Nat) (ρ : Rf) (w : World) (H : RfAt w g base ρ) (p : Int) (ho : ρ.ops < 1000000)
include H ho
theorem rload_any : Calls Try.prog 73 #[.pointer (some ⟨g, 0, none⟩), .int .i64 p] w fun e w' => e = .returned (.int .i64 (ρ.get p)) ∧ RfAt w' g base (ρ.op 1 p false 0) ∧ RMod base g w w' := by
  have HO := Lib.hid (rop_any g base ρ w H p ho 1 0 false)
  clear H ho
  go_enter Try.func73, Try.ntmps73
  go_wp2_with fail
  refine HO.out.mono ?_
  rintro e w1 ⟨rfl, h1, h2⟩
  go_wp2_with fail
  go_ret
  exact ⟨rfl, h1, h2⟩
theorem rstore_any (v : Int) : Calls Try.prog 74 #[.pointer (some ⟨g, 0, none⟩), .int .i64 p, .int .i64 v] w fun e w' => e = .returned (.tuple #[]) ∧ RfAt w' g base (ρ.op 2 p true v) ∧ RMod base g w w' := by
  have HO := Lib.hid (rop_any g base ρ w H p ho 2 v true)
  clear H ho
  go_enter Try.func74, Try.ntmps74
  go_wp2_with fail
  refine HO.out.mono ?_
  rintro e w1 ⟨rfl, h1, h2⟩
  go_wp2_with fail
  go_end0
  exact ⟨rfl, h1, h2⟩
theorem rswap_any (v : Int) : Calls Try.prog 75 #[.pointer (some ⟨g, 0, none⟩), .int .i64 p, .int .i64 v] w fun e w' => e = .returned (.int .i64 (ρ.get p)) ∧ RfAt w' g base (ρ.op 3 p true v) ∧ RMod base g w w' := by
  have HO := Lib.hid (rop_any g base ρ w H p ho 3 v true)
  clear H ho
  go_enter Try.func75, Try.ntmps75
  go_wp2_with fail
  refine HO.out.mono ?_
  rintro e w1 ⟨rfl, h1, h2⟩
  go_wp2_with fail
  go_ret
  exact ⟨rfl, h1, h2⟩
theorem rcas_any (old v : Int) : Calls Try.prog 76 #[.pointer (some ⟨g, 0, none⟩), .int .i64 p, .int .i64 old, .int .i64 v] w fun e w' => e = .returned (.bool (ρ.has p && (ρ.get p == old))) ∧ RfAt w' g base (ρ.op 4 p (ρ.get p == old) v) ∧ RMod base g w w' := by
  have HA := Lib.hid (rat_any g base ρ w H p)
  obtain ⟨b, hb⟩ : ∃ b, (ρ.get p == old) = b := ⟨_, rfl⟩
  have HO := Lib.hid (rop_any g base ρ w H p ho 4 v b)
  rw [hb]
  have HB := Lib.hid (show (ρ.get p == old) = b from hb)
  generalize ρ.get p = x at *
  generalize ρ.has p = y at *
  clear H ho HB
  go_enter Try.func76, Try.ntmps76
  go_wp2_with fail
  refine (HA.out).mono ?_
  rintro e wx ⟨rfl, hwx⟩
  obtain rfl := hwx.symm
  go_wp2_with fail
  refine HO.out.mono ?_
  rintro e w1 ⟨rfl, h1, h2⟩
  cases y
  · go_wp2_with fail
    go_ret
    exact ⟨rfl, h1, h2⟩
  · go_wp2_with fail
    go_ret
    exact ⟨rfl, h1, h2⟩
theorem radd_any (d : Int) : Calls Try.prog 77 #[.pointer (some ⟨g, 0, none⟩), .int .i64 p, .int .i64 d] w fun e w' => e = .returned (.int .i64 (if ρ.has p then wrap64 (ρ.get p + d) else 0)) ∧ RfAt w' g base (ρ.op 5 p true (wrap64 (ρ.get p + d))) ∧ RMod base g w w' := by
  have HA := Lib.hid (rat_any g base ρ w H p)
  have HO := Lib.hid (rop_any g base ρ w H p ho 5 (wrap64 (ρ.get p + d)) true)
  have HA2 := Lib.hid (fun W hW => rat_any g base (ρ.op 5 p true (wrap64 (ρ.get p + d))) W hW p)
  have hgv : ρ.has p = true → (ρ.op 5 p true (wrap64 (ρ.get p + d))).get p = wrap64 (ρ.get p + d) := by
    intro hh
    rcases ρ.cases p with ⟨h, _⟩ | ⟨k, hk, rfl⟩
    · rw [h] at hh; cases hh
    · rw [Rf.op_in hk]
      have hk2 : k < (ρ.did 5 ((k : Int) + 1) true (if true = true then ρ.ws.set k (wrap64 (ρ.get ((k : Int) + 1) + d)) else ρ.ws)).ws.length := by simp [Rf.did]; exact hk
      rw [Rf.get_in hk2]
      simp [Rf.did, hk]
  have HG := Lib.hid hgv
  clear hgv H ho
  generalize ρ.op 5 p true (wrap64 (ρ.get p + d)) = ρ2 at *
  generalize ρ.get p = x at *
  cases hy : ρ.has p
  · rw [hy] at HO
    clear hy HG
    go_enter Try.func77, Try.ntmps77
    go_wp2_with fail
    refine (HA.out).mono ?_
    rintro e wx ⟨rfl, hwx⟩
    obtain rfl := hwx.symm
    go_wp2_with fail
    refine HO.out.mono ?_
    rintro e w1 ⟨rfl, h1, h2⟩
    go_wp2_with fail
    go_ret
    exact ⟨rfl, h1, h2⟩
  · rw [hy] at HO
    have HV := Lib.hid (HG.out hy)
    clear hy HG
    go_enter Try.func77, Try.ntmps77
    go_wp2_with fail
    refine (HA.out).mono ?_
    rintro e wx ⟨rfl, hwx⟩
    obtain rfl := hwx.symm
    go_wp2_with fail
    refine HO.out.mono ?_
    rintro e w1 ⟨rfl, h1, h2⟩
    go_wp2_with fail
    refine (HA2.out _ h1).mono ?_
    rintro e wx ⟨rfl, hwx⟩
    obtain rfl := hwx.symm
    go_wp2_with fail
    go_ret
    exact ⟨by rw [HV.out]; rfl, h1, h2⟩
end
end Go.Proofs.Ytfdcojhgpfmloaa.Ara
