/- Walks of layer 9: the reference's Robin; awake. -/
import Derived.Test.YtmldkfmebplblaaFair6
namespace Go.Proofs.Ytmldkfmebplblaa.Fai
open Go.RowKit

theorem val_id {n q : Nat} (h : q < n) : (val n 0 q : Int) = q := by
  have h0 : fst n 0 = 0 := by simp [fst]
  rw [val, if_pos (by decide), h0, Nat.zero_add, Nat.mod_eq_of_lt h]

def RbJ (n : Nat) (r : Int) (w : World) (target : List Int) (a : Act) (w' : World) : Prop :=
  a.tmps.size = 36 ∧ a.defers = [] ∧ a.tmps.getD 1 undef = .int .i64 r ∧ a.tmps.getD 5 undef = .int .i64 n ∧
    ∃ (k : Nat) (out : List Int) (v : Value), a.tmps.getD 6 undef = v ∧ a.tmps.getD 7 undef = .int .i64 k ∧ (k = 0 ∨ 0 < n) ∧ k ≤ out.length ∧ out.length ≤ 4000 ∧
      w'.ownsRow w.heap.size 3 1 v out.length (out.map (Value.int .i64)) ∧ Below w.heap.size w w' ∧ roundsTo n (List.replicate (r.toNat - k) 0) out = target
def RbJ2 (n k : Nat) (r : Int) (out : List Int) (w : World) (a : Act) (w' : World) : Prop :=
  a.tmps.size = 36 ∧ a.defers = [] ∧ a.tmps.getD 1 undef = .int .i64 r ∧ a.tmps.getD 5 undef = .int .i64 n ∧ a.tmps.getD 7 undef = .int .i64 k ∧
    ∃ (q : Nat) (v : Value), a.tmps.getD 6 undef = v ∧ a.tmps.getD 8 undef = .int .i64 q ∧ q ≤ n ∧
      w'.ownsRow w.heap.size 3 1 v (out ++ rowTo n 0 q).length ((out ++ rowTo n 0 q).map (Value.int .i64)) ∧ Below w.heap.size w w'

set_option maxHeartbeats 4000000 in
set_option maxRecDepth 100000 in
theorem rrobin_any (t r : Int) (w : World) (hr64 : isI64 r) :
    Calls Try.prog 44 #[.int .i64 t, .int .i64 r] w fun e w' => ∃ v, e = .returned v ∧
      w'.ownsRow w.heap.size 3 1 v (robin t r).length ((robin t r).map (Value.int .i64)) ∧ Below w.heap.size w w' := by
  obtain ⟨hr1, hr2⟩ := hr64
  have hle := som_le t
  have HS := Lib.hid (fun W => rsome_any t W)
  unfold robin
  generalize som t = n at *
  obtain ⟨target, ht⟩ : ∃ x, roundsTo n (List.replicate r.toNat 0) [] = x := ⟨_, rfl⟩
  rw [ht]
  have HT := Lib.hid ht
  clear ht
  go_enter Try.func44, Try.ntmps44
  go_wp2_with fail
  refine (HS.out _).mono ?_
  rintro e wx ⟨rfl, hwx⟩
  obtain rfl := hwx.symm
  go_wp2_with fail
  refine wp_loop (RbJ n r w target) (fun a' _ => 4001 - (intOf (a'.tmps.getD 7 undef)).toNat) ?_ ?_
  · exact ⟨rfl, rfl, rfl, rfl, 0, [], _, rfl, rfl, .inl rfl, Nat.zero_le _, by simp, World.ownsRow_nil _ _ _ _, Below.refl _ _, HT.out⟩
  · rintro a' w' ⟨hsz, hdf, s1, s5, k, out, v, s6, s7, hk0, hko, hol, hown, hb, hrun⟩
    obtain ⟨u, rfl, hu⟩ := frame36 hsz hdf
    rw [hu] at s1 s5 s6 s7
    simp only [s1, s5, s6, s7]
    clear hsz hdf s1 s5 s6 s7 hu
    have HX := Lib.hid hrun
    clear hrun
    obtain ⟨V, cv, rfl, _, _, _⟩ := own_slice hown
    by_cases hlt : (k : Int) < r
    · have hrep := Lib.hid (show List.replicate (r.toNat - k) (0 : Int) = 0 :: List.replicate (r.toNat - (k + 1)) 0 by
        rw [show r.toNat - k = (r.toNat - (k + 1)) + 1 by omega, List.replicate_succ])
      by_cases hn0 : 0 < n
      · by_cases hfull : 4000 < out.length + n
        · have HE := Lib.hid (show out = target by rw [← HX.out, hrep.out, roundsTo, if_pos (.inr hfull)])
          have hf1 : (4000 : Int) < (out.length : Int) + (n : Int) := by omega
          clear hk0
          go_wp2_with fail
          go_ret
          rw [← HE.out]
          exact ⟨_, rfl, hown, hb⟩
        · have HE := Lib.hid (show roundsTo n (List.replicate (r.toNat - (k + 1)) 0) (out ++ rowTo n 0 n) = target by rw [← HX.out, hrep.out, roundsTo, if_neg (by omega)])
          have hf1 : ¬ (4000 : Int) < (out.length : Int) + (n : Int) := by omega
          clear hk0
          go_wp2_with fail
          refine wp_loop (RbJ2 n k r out w) (fun a' _ => n - (intOf (a'.tmps.getD 8 undef)).toNat) ?_ ?_
          · exact ⟨rfl, rfl, rfl, rfl, rfl, 0, _, rfl, rfl, Nat.zero_le _, by simpa [rowTo] using hown, hb⟩
          · rintro a' w'' ⟨hsz, hdf, s1, s5, s7, q, v2, s6, s8, hq, hown2, hb2'⟩
            obtain ⟨u, rfl, hu⟩ := frame36 hsz hdf
            rw [hu] at s1 s5 s6 s7 s8
            simp only [s1, s5, s6, s7, s8]
            clear hsz hdf s1 s5 s6 s7 s8 hu
            have hln : (out ++ rowTo n 0 q).length = out.length + q := by rw [List.length_append, rowTo_len]
            by_cases hqn : q < n
            · have hrs := Lib.hid (show out ++ rowTo n 0 (q + 1) = (out ++ rowTo n 0 q) ++ [(q : Int)] by rw [rowTo_succ, List.append_assoc, val_id hqn])
              have hln2 : (out ++ rowTo n 0 q).length ≤ 4000 := by omega
              clear hln
              generalize out ++ rowTo n 0 q = oo at *
              go_wp2_with (at_builtin; refine wpList_append1 (.tmp 31) (.tmp 33) 34 3 _ 1 8 rfl rfl Try.underlying34 infoI rfl (by decide) w.heap.size _ _ _ _ _ _ _ _ hown2 rfl rfl ?cg rfl ?d1 ?d2 ?d3 ?d4 ?ck; case' ck => intro v' w2 hown1 hb3 _)
              case cg => first | rfl | simp
              case d1 => simp [Value.oneCell']
              case d2 => simp only [maxLen]; omega
              case d3 => omega
              case d4 => have := hb2'.size; omega
              exact ⟨⟨rfl, rfl, rfl, rfl, rfl, q + 1, v', rfl, rfl, hqn, by rw [hrs.out]; simpa using hown1, hb2'.trans hb3⟩, by simp [intOf]; omega⟩
            · obtain rfl : q = n := by omega
              have HLN := Lib.hid hln
              clear hln
              go_wp2_with fail
              exact ⟨⟨rfl, rfl, rfl, rfl, k + 1, out ++ rowTo q 0 q, v2, rfl, rfl, .inr hn0, by rw [HLN.out]; omega, by rw [HLN.out]; omega, hown2, hb2', HE.out⟩, by simp [intOf]; omega⟩
      · have HE := Lib.hid (show out = target by rw [← HX.out, hrep.out, roundsTo, if_pos (.inl (by omega))])
        have hq' : decide (0 < n) = false := by simpa using hn0
        clear hk0
        go_wp2_with fail
        go_ret
        rw [← HE.out]
        exact ⟨_, rfl, hown, hb⟩
    · have HE := Lib.hid (show out = target by rw [← HX.out, show r.toNat - k = 0 by omega]; rfl)
      clear hk0
      go_wp2_with fail
      go_ret
      rw [← HE.out]
      exact ⟨_, rfl, hown, hb⟩

theorem rrobin_sl (t r : Int) (w : World) (hr64 : isI64 r) :
    Calls Try.prog 44 #[.int .i64 t, .int .i64 r] w fun e w' => ∃ V c, e = .returned (.slice V (robin t r).length c) ∧
      (robin t r).length ≤ c ∧ c ≤ maxLen ∧ Sl w' w'.heap.size V ((robin t r).flatMap decI) ∧ Below w.heap.size w w' :=
  (rrobin_any t r w hr64).mono fun e w' ⟨v, he, hown, hb⟩ => by
    rw [← flatI] at hown
    obtain ⟨V, c, rfl, h1, h2, h3⟩ := own_slice hown
    exact ⟨V, c, he, h1, h2, h3, hb⟩
theorem rrounds_sl (t : Int) (how : List Int) (A : Option Addr) (cap : Nat) (w : World) (hm : how.length ≤ 65536) (h64 : ∀ x ∈ how, isI64 x) (hs : Sl w w.heap.size A (how.flatMap decI)) :
    Calls Try.prog 45 #[.int .i64 t, .slice A how.length cap] w fun e w' => ∃ V c, e = .returned (.slice V (roundsTo (som t) how []).length c) ∧
      (roundsTo (som t) how []).length ≤ c ∧ c ≤ maxLen ∧ Sl w' w'.heap.size V ((roundsTo (som t) how []).flatMap decI) ∧ Below w.heap.size w w' :=
  (rrounds_any t how A cap w hm h64 hs).mono fun e w' ⟨v, he, hown, hb⟩ => by
    rw [← flatI] at hown
    obtain ⟨V, c, rfl, h1, h2, h3⟩ := own_slice hown
    exact ⟨V, c, he, h1, h2, h3, hb⟩

theorem rounds_pos (t : Int) (how : List Int) (A : Option Addr) (cap m : Nat) (R : List Int) (w : World) (hl : how.length = m) (hR : roundsTo (som t) how [] = R) (hm : how.length ≤ 65536) (h64 : ∀ x ∈ how, isI64 x) (hs : Sl w w.heap.size A (how.flatMap decI)) :
    Calls Try.prog 42 #[.int .i64 t, .slice A m cap] w fun e w' => ∃ V c, e = .returned (.slice V R.length c) ∧ Sl w' w'.heap.size V (R.flatMap decI) ∧ Below w.heap.size w w' := by
  subst hl hR
  exact (rounds_sl t how A cap w hm h64 hs).mono fun e w' ⟨V, c, he, _, _, h3, hb⟩ => ⟨V, c, he, h3, hb⟩

set_option maxHeartbeats 4000000 in
theorem awake_any (w : World) :
    Calls Try.prog 34 #[] w fun e w' => e = .returned (.bool true) ∧ Below w.heap.size w w' := by
  have e1 : fairB [0, 1, 1, 0] 2 3 = true := by decide +kernel
  have e2 : fairB [0, 1, 1, 0] 2 2 = false := by decide +kernel
  have e3 : ((longest (som 2) [0, 1, 1, 0] : Int) + 1) = 3 := by decide +kernel
  have e4 : robin 2 2 = [0, 1, 0, 1] := by decide +kernel
  have e5 : roundsTo (som 3) [1, 2, -1] [] = [1, 0, 2, 2, 0, 1, 2, 1, 0] := by decide +kernel
  have e6 : own [0, 1, 1, 0] 1 2 = 1 := by decide +kernel
  have C1 := fun W A h => fair_any [0, 1, 1, 0] A 4 2 3 W (by simp) h
  have C2 := fun W A h => fair_any [0, 1, 1, 0] A 4 2 2 W (by simp) h
  have C3 := fun W A h => least_any [0, 1, 1, 0] A 4 2 W (by simp) h
  have C4 := fun W => robin_sl 2 2 W
  have C5 := fun W A h => rounds_pos 3 [1, 2, -1] A 3 3 _ W rfl e5 (by simp) (by intro x hx; simp at hx; rcases hx with rfl | rfl | rfl <;> exact ⟨by omega, by omega⟩) h
  have C6 := fun W A B h => own_any [0, 1, 1, 0] A 4 1 2 B W (by simp) h
  rw [e1] at C1
  rw [e2] at C2
  rw [e3] at C3
  rw [e4] at C4
  rw [e6] at C6
  have K1 := Lib.hid C1
  have K2 := Lib.hid C2
  have K3 := Lib.hid C3
  have K4 := Lib.hid C4
  have K5 := Lib.hid C5
  have K6 := Lib.hid C6
  have S1 := Lib.hid (fun W A C c d h h' => same_any [0, 1, 0, 1] [0, 1, 0, 1] A C c d W (by simp) (by simp) h h')
  have S2 := Lib.hid (fun W A C c d h h' => same_any [1, 0, 2, 2, 0, 1, 2, 1, 0] [1, 0, 2, 2, 0, 1, 2, 1, 0] A C c d W (by simp) (by simp) h h')
  clear C1 C2 C3 C4 C5 C6 e1 e2 e3 e4 e5 e6
  have H0 := below_new w (.cells #[.int .i64 0, .int .i64 1, .int .i64 1, .int .i64 0] 3)
  have L0 := Sl.made w #[.int .i64 0, .int .i64 1, .int .i64 1, .int .i64 0] 3
  go_enter Try.func34, Try.ntmps34
  go_wp2_with fail
  refine (K1.out _ _ L0).mono ?_
  rintro e w1 ⟨rfl, hb⟩
  have L1 := L0.step hb
  have H1 := below_chain H0 hb (Nat.le_refl _)
  clear hb L0 H0
  go_wp2_with fail
  refine (K2.out _ _ L1).mono ?_
  rintro e w2 ⟨rfl, hb⟩
  have L2 := L1.step hb
  have H2 := below_chain H1 hb (Nat.le_refl _)
  clear hb L1 H1
  go_wp2_with fail
  refine (K3.out _ _ L2).mono ?_
  rintro e w3 ⟨rfl, hb⟩
  have L3 := L2.step hb
  have H3 := below_chain H2 hb (Nat.le_refl _)
  clear hb L2 H2
  go_wp2_with fail
  refine (K4.out _).mono ?_
  rintro e w4 ⟨V4, d4, rfl, _, _, M4, hb⟩
  have L4 := L3.step hb
  have H4 := below_chain H3 hb (Nat.le_refl _)
  clear hb L3 H3
  go_wp2_with fail
  refine (S1.out _ _ _ _ _ (M4.push _) (Sl.made _ _ _)).mono ?_
  rintro e w5 ⟨rfl, hb⟩
  have L5 := (L4.push _).step hb
  have H5 := below_chain (H4.alloc H4.size _) hb (Nat.le_refl _)
  clear hb L4 H4 M4
  go_wp2_with fail
  refine (K5.out _ _ (Sl.made _ _ _)).mono ?_
  rintro e w6 ⟨V6, d6, rfl, M6, hb⟩
  have L6 := (L5.push _).step hb
  have H6 := below_chain (H5.alloc H5.size _) hb (Nat.le_refl _)
  clear hb L5 H5
  go_wp2_with fail
  refine (S2.out _ _ _ _ _ (M6.push _) (Sl.made _ _ _)).mono ?_
  rintro e w7 ⟨rfl, hb⟩
  have L7 := (L6.push _).step hb
  have H7 := below_chain (H6.alloc H6.size _) hb (Nat.le_refl _)
  clear hb L6 H6 M6
  go_wp2_with fail
  refine (K6.out _ _ _ L7).mono ?_
  rintro e w8 ⟨rfl, hw8⟩
  obtain rfl := hw8.symm
  go_wp2_with fail
  go_ret
  exact ⟨rfl, H7⟩
end Go.Proofs.Ytmldkfmebplblaa.Fai
