/- Walks of the reference of layer 9: Rounds, Robin; fair.Robin; Same. -/
import Derived.Test.YtmldkfmebplblaaFair4
namespace Go.Proofs.Ytmldkfmebplblaa.Fai
open Go.RowKit

theorem frame69 {a : Act} (h : a.tmps.size = 69) (hd : a.defers = []) : ∃ u : Nat → Value, a = { tmps := #[u 0, u 1, u 2, u 3, u 4, u 5, u 6, u 7, u 8, u 9, u 10, u 11, u 12, u 13, u 14, u 15, u 16, u 17, u 18, u 19, u 20, u 21, u 22, u 23, u 24, u 25, u 26, u 27, u 28, u 29, u 30, u 31, u 32, u 33, u 34, u 35, u 36, u 37, u 38, u 39, u 40, u 41, u 42, u 43, u 44, u 45, u 46, u 47, u 48, u 49, u 50, u 51, u 52, u 53, u 54, u 55, u 56, u 57, u 58, u 59, u 60, u 61, u 62, u 63, u 64, u 65, u 66, u 67, u 68], defers := [] } ∧ ∀ n, a.tmps.getD n undef = u n := by
  refine ⟨fun n => a.tmps.getD n undef, ?_, fun _ => rfl⟩
  have h1 := arr_lit a.tmps h
  cases a with
  | mk t d =>
    simp only at hd h1
    subst hd
    congr 1
theorem frame36 {a : Act} (h : a.tmps.size = 36) (hd : a.defers = []) : ∃ u : Nat → Value, a = { tmps := #[u 0, u 1, u 2, u 3, u 4, u 5, u 6, u 7, u 8, u 9, u 10, u 11, u 12, u 13, u 14, u 15, u 16, u 17, u 18, u 19, u 20, u 21, u 22, u 23, u 24, u 25, u 26, u 27, u 28, u 29, u 30, u 31, u 32, u 33, u 34, u 35], defers := [] } ∧ ∀ n, a.tmps.getD n undef = u n := by
  refine ⟨fun n => a.tmps.getD n undef, ?_, fun _ => rfl⟩
  have h1 := arr_lit a.tmps h
  cases a with
  | mk t d =>
    simp only at hd h1
    subst hd
    congr 1

def RrJ (n : Nat) (how : List Int) (A : Option Addr) (cap : Nat) (w : World) (target : List Int) (a : Act) (w' : World) : Prop :=
  a.tmps.size = 69 ∧ a.defers = [] ∧ a.tmps.getD 1 undef = .slice A how.length cap ∧ a.tmps.getD 5 undef = .int .i64 n ∧
    ∃ (k : Nat) (out : List Int) (v : Value), a.tmps.getD 6 undef = v ∧ a.tmps.getD 7 undef = .int .i64 k ∧ k ≤ how.length ∧ out.length ≤ 4000 ∧
      w'.ownsRow w.heap.size 3 1 v out.length (out.map (Value.int .i64)) ∧ Below w.heap.size w w' ∧ roundsTo n (how.drop k) out = target
def RrJ2 (n k : Nat) (x : Int) (how out : List Int) (A : Option Addr) (cap : Nat) (w : World) (a : Act) (w' : World) : Prop :=
  a.tmps.size = 69 ∧ a.defers = [] ∧ a.tmps.getD 1 undef = .slice A how.length cap ∧ a.tmps.getD 5 undef = .int .i64 n ∧ a.tmps.getD 7 undef = .int .i64 k ∧ a.tmps.getD 8 undef = .int .i64 (fst n x) ∧
    ∃ (q : Nat) (v : Value), a.tmps.getD 6 undef = v ∧ a.tmps.getD 9 undef = .int .i64 q ∧ q ≤ n ∧
      w'.ownsRow w.heap.size 3 1 v (out ++ rowTo n x q).length ((out ++ rowTo n x q).map (Value.int .i64)) ∧ Below w.heap.size w w'

set_option maxHeartbeats 4000000 in
set_option maxRecDepth 100000 in
theorem rrounds_any (t : Int) (how : List Int) (A : Option Addr) (cap : Nat) (w : World) (hm : how.length ≤ 65536) (h64 : ∀ x ∈ how, isI64 x) (hs : Sl w w.heap.size A (how.flatMap decI)) :
    Calls Try.prog 45 #[.int .i64 t, .slice A how.length cap] w fun e w' => ∃ v, e = .returned v ∧
      w'.ownsRow w.heap.size 3 1 v (roundsTo (som t) how []).length ((roundsTo (som t) how []).map (Value.int .i64)) ∧ Below w.heap.size w w' := by
  have hle := som_le t
  have HS := Lib.hid (fun W => rsome_any t W)
  generalize som t = n at *
  obtain ⟨target, ht⟩ : ∃ r, roundsTo n how [] = r := ⟨_, rfl⟩
  rw [ht]
  have HT := Lib.hid ht
  have H64 := Lib.hid h64
  clear ht h64
  go_enter Try.func45, Try.ntmps45
  go_wp2_with fail
  refine (HS.out _).mono ?_
  rintro e wx ⟨rfl, hwx⟩
  obtain rfl := hwx.symm
  go_wp2_with fail
  refine wp_loop (RrJ n how A cap w target) (fun a' _ => how.length - (intOf (a'.tmps.getD 7 undef)).toNat) ?_ ?_
  · exact ⟨rfl, rfl, rfl, rfl, 0, [], _, rfl, rfl, Nat.zero_le _, by simp, World.ownsRow_nil _ _ _ _, Below.refl _ _, HT.out⟩
  · rintro a' w' ⟨hsz, hdf, s1, s5, k, out, v, s6, s7, hk, hol, hown, hb, hrun⟩
    obtain ⟨u, rfl, hu⟩ := frame69 hsz hdf
    rw [hu] at s1 s5 s6 s7
    simp only [s1, s5, s6, s7]
    clear hsz hdf s1 s5 s6 s7 hu
    have HX := Lib.hid hrun
    clear hrun
    obtain ⟨V, cv, rfl, _, _, _⟩ := own_slice hown
    by_cases hlt : k < how.length
    · obtain ⟨b, off, rfl, hbb, hcell⟩ := Sl_at (k := 1) (fun _ => rfl) (by omega) (hs.below hb) (by omega)
      have h0 := hcell k hlt 0 (by omega)
      simp only [decI, List.getElem?_cons_zero, Nat.add_zero, Nat.mul_one] at h0
      have hd := Lib.hid (List.drop_eq_getElem_cons hlt)
      have hx64 := H64.out how[k] (List.getElem_mem _)
      have hw0 : w.cell? ⟨b, off + k, none⟩ = w'.cell? ⟨b, off + k, none⟩ := (hb.cell (p := ⟨b, off + k, none⟩) hbb).symm
      rw [h0] at hw0
      have HW0 := Lib.hid hw0
      clear hcell hw0
      generalize how[k] = x at h0 hd hx64 HW0
      obtain ⟨hx1, hx2⟩ := hx64
      by_cases hn0 : n = 0
      · have HE := Lib.hid (show out = target by rw [← HX.out, hd.out, roundsTo, if_pos (.inl hn0)])
        have hq : ¬ 0 < n := by omega
        have hq' : decide (0 < n) = false := by simpa using hq
        clear hn0
        go_wp2_with fail
        go_ret
        rw [← HE.out]
        exact ⟨_, rfl, hown, hb⟩
      · have h0n : 0 < n := by omega
        by_cases hfull : 4000 < out.length + n
        · have HE := Lib.hid (show out = target by rw [← HX.out, hd.out, roundsTo, if_pos (.inr hfull)])
          have hf1 : (4000 : Int) < (out.length : Int) + (n : Int) := by omega
          clear hn0
          go_wp2_with fail
          go_ret
          rw [← HE.out]
          exact ⟨_, rfl, hown, hb⟩
        · have HE := Lib.hid (show roundsTo n (how.drop (k + 1)) (out ++ rowTo n x n) = target by rw [← HX.out, hd.out, roundsTo, if_neg (by omega)])
          have hf1 : ¬ (4000 : Int) < (out.length : Int) + (n : Int) := by omega
          obtain ⟨t1, t2⟩ := tmod_bd x h0n
          have te := tmod_emod x h0n
          rw [Int.add_emod_right] at te
          have fc := fst_cast h0n x
          have fl := fst_lt h0n x
          clear hn0
          by_cases hneg : x.tmod n < 0
          · have v0 := Lib.hid (show x.tmod n + n = (fst n x : Nat) by
              rw [fc, ← te, ← Int.add_emod_right]
              exact (Int.emod_eq_of_lt (by omega) (by omega)).symm)
            clear te fc
            go_wp2_with fail
            refine wp_loop (RrJ2 n k x how out (some ⟨b, off, none⟩) cap w) (fun a' _ => n - (intOf (a'.tmps.getD 9 undef)).toNat) ?_ ?_
            · exact ⟨rfl, rfl, rfl, rfl, rfl, congrArg (Value.int .i64) v0.out, 0, _, rfl, rfl, Nat.zero_le _, by simpa [rowTo] using hown, hb⟩
            · rintro a' w'' ⟨hsz, hdf, s1, s5, s7, s8, q, v2, s6, s9, hq, hown2, hb2'⟩
              obtain ⟨u, rfl, hu⟩ := frame69 hsz hdf
              rw [hu] at s1 s5 s6 s7 s8 s9
              simp only [s1, s5, s6, s7, s8, s9]
              clear hsz hdf s1 s5 s6 s7 s8 s9 hu
              have hln : (out ++ rowTo n x q).length ≤ 4000 := by rw [List.length_append, rowTo_len]; omega
              by_cases hqn : q < n
              · have h0' : w''.cell? ⟨b, off + k, none⟩ = some (.int .i64 x) := (hb2'.cell (p := ⟨b, off + k, none⟩) hbb).trans HW0.out
                have hrs := Lib.hid (show out ++ rowTo n x (q + 1) = (out ++ rowTo n x q) ++ [(val n x q : Int)] by rw [rowTo_succ, List.append_assoc])
                have hi : (q : Int) < (n : Int) := by omega
                have hnn : ¬ (n : Int) = 0 := by omega
                by_cases hx2 : x.tmod 2 = 0
                · have hb2 := ibeq hx2
                  have hv := Lib.hid (show ((fst n x : Int) + q) % n = (val n x q : Nat) by unfold val; rw [if_pos hx2]; simp)
                  have HX2 := Lib.hid hx2
                  clear hx2
                  generalize out ++ rowTo n x q = oo at *
                  go_wp2_with (at_builtin; refine wpList_append1 (.tmp 50) (.tmp 56) 34 3 _ 1 8 rfl rfl Try.underlying34 infoI rfl (by decide) w.heap.size _ _ _ _ _ _ _ _ hown2 rfl rfl ?cgae rfl ?d1ae ?d2ae ?d3ae ?d4ae ?ckae; case' ckae => intro v' w2 hown1 hb3 _)
                  case cgae => first | rfl | simp
                  case d1ae => simp [Value.oneCell']
                  case d2ae => simp only [maxLen]; omega
                  case d3ae => omega
                  case d4ae => have := hb2'.size; omega
                  exact ⟨⟨rfl, rfl, rfl, rfl, rfl, rfl, q + 1, v', rfl, rfl, hqn, by rw [hrs.out, ← hv.out]; simpa using hown1, hb2'.trans hb3⟩, by simp [intOf]; omega⟩
                · have hb2 := ibeq_no hx2
                  have hv := Lib.hid (show ((fst n x : Int) + n - q) % n = (val n x q : Nat) by unfold val; rw [if_neg hx2]; rw [Int.natCast_emod, Int.ofNat_sub (by omega)]; simp)
                  have HX2 := Lib.hid hx2
                  clear hx2
                  generalize out ++ rowTo n x q = oo at *
                  go_wp2_with (at_builtin; refine wpList_append1 (.tmp 58) (.tmp 66) 34 3 _ 1 8 rfl rfl Try.underlying34 infoI rfl (by decide) w.heap.size _ _ _ _ _ _ _ _ hown2 rfl rfl ?cgao rfl ?d1ao ?d2ao ?d3ao ?d4ao ?ckao; case' ckao => intro v' w2 hown1 hb3 _)
                  case cgao => first | rfl | simp
                  case d1ao => simp [Value.oneCell']
                  case d2ao => simp only [maxLen]; omega
                  case d3ao => omega
                  case d4ao => have := hb2'.size; omega
                  exact ⟨⟨rfl, rfl, rfl, rfl, rfl, rfl, q + 1, v', rfl, rfl, hqn, by rw [hrs.out, ← hv.out]; simpa using hown1, hb2'.trans hb3⟩, by simp [intOf]; omega⟩
              · obtain rfl : q = n := by omega
                go_wp2_with fail
                exact ⟨⟨rfl, rfl, rfl, rfl, k + 1, out ++ rowTo q x q, v2, rfl, rfl, hlt, hln, hown2, hb2', HE.out⟩, by simp [intOf]; omega⟩
          · have v0 := Lib.hid (show x.tmod n = (fst n x : Nat) by
              rw [fc, ← te]
              exact (Int.emod_eq_of_lt (by omega) (by omega)).symm)
            clear te fc
            go_wp2_with fail
            refine wp_loop (RrJ2 n k x how out (some ⟨b, off, none⟩) cap w) (fun a' _ => n - (intOf (a'.tmps.getD 9 undef)).toNat) ?_ ?_
            · exact ⟨rfl, rfl, rfl, rfl, rfl, congrArg (Value.int .i64) v0.out, 0, _, rfl, rfl, Nat.zero_le _, by simpa [rowTo] using hown, hb⟩
            · rintro a' w'' ⟨hsz, hdf, s1, s5, s7, s8, q, v2, s6, s9, hq, hown2, hb2'⟩
              obtain ⟨u, rfl, hu⟩ := frame69 hsz hdf
              rw [hu] at s1 s5 s6 s7 s8 s9
              simp only [s1, s5, s6, s7, s8, s9]
              clear hsz hdf s1 s5 s6 s7 s8 s9 hu
              have hln : (out ++ rowTo n x q).length ≤ 4000 := by rw [List.length_append, rowTo_len]; omega
              by_cases hqn : q < n
              · have h0' : w''.cell? ⟨b, off + k, none⟩ = some (.int .i64 x) := (hb2'.cell (p := ⟨b, off + k, none⟩) hbb).trans HW0.out
                have hrs := Lib.hid (show out ++ rowTo n x (q + 1) = (out ++ rowTo n x q) ++ [(val n x q : Int)] by rw [rowTo_succ, List.append_assoc])
                have hi : (q : Int) < (n : Int) := by omega
                have hnn : ¬ (n : Int) = 0 := by omega
                by_cases hx2 : x.tmod 2 = 0
                · have hb2 := ibeq hx2
                  have hv := Lib.hid (show ((fst n x : Int) + q) % n = (val n x q : Nat) by unfold val; rw [if_pos hx2]; simp)
                  have HX2 := Lib.hid hx2
                  clear hx2
                  generalize out ++ rowTo n x q = oo at *
                  go_wp2_with (at_builtin; refine wpList_append1 (.tmp 50) (.tmp 56) 34 3 _ 1 8 rfl rfl Try.underlying34 infoI rfl (by decide) w.heap.size _ _ _ _ _ _ _ _ hown2 rfl rfl ?cgbe rfl ?d1be ?d2be ?d3be ?d4be ?ckbe; case' ckbe => intro v' w2 hown1 hb3 _)
                  case cgbe => first | rfl | simp
                  case d1be => simp [Value.oneCell']
                  case d2be => simp only [maxLen]; omega
                  case d3be => omega
                  case d4be => have := hb2'.size; omega
                  exact ⟨⟨rfl, rfl, rfl, rfl, rfl, rfl, q + 1, v', rfl, rfl, hqn, by rw [hrs.out, ← hv.out]; simpa using hown1, hb2'.trans hb3⟩, by simp [intOf]; omega⟩
                · have hb2 := ibeq_no hx2
                  have hv := Lib.hid (show ((fst n x : Int) + n - q) % n = (val n x q : Nat) by unfold val; rw [if_neg hx2]; rw [Int.natCast_emod, Int.ofNat_sub (by omega)]; simp)
                  have HX2 := Lib.hid hx2
                  clear hx2
                  generalize out ++ rowTo n x q = oo at *
                  go_wp2_with (at_builtin; refine wpList_append1 (.tmp 58) (.tmp 66) 34 3 _ 1 8 rfl rfl Try.underlying34 infoI rfl (by decide) w.heap.size _ _ _ _ _ _ _ _ hown2 rfl rfl ?cgbo rfl ?d1bo ?d2bo ?d3bo ?d4bo ?ckbo; case' ckbo => intro v' w2 hown1 hb3 _)
                  case cgbo => first | rfl | simp
                  case d1bo => simp [Value.oneCell']
                  case d2bo => simp only [maxLen]; omega
                  case d3bo => omega
                  case d4bo => have := hb2'.size; omega
                  exact ⟨⟨rfl, rfl, rfl, rfl, rfl, rfl, q + 1, v', rfl, rfl, hqn, by rw [hrs.out, ← hv.out]; simpa using hown1, hb2'.trans hb3⟩, by simp [intOf]; omega⟩
              · obtain rfl : q = n := by omega
                go_wp2_with fail
                exact ⟨⟨rfl, rfl, rfl, rfl, k + 1, out ++ rowTo q x q, v2, rfl, rfl, hlt, hln, hown2, hb2', HE.out⟩, by simp [intOf]; omega⟩
    · have HE := Lib.hid (show out = target by rw [← HX.out, List.drop_of_length_le (by omega)]; rfl)
      go_wp2_with fail
      go_ret
      rw [← HE.out]
      exact ⟨_, rfl, hown, hb⟩
end Go.Proofs.Ytmldkfmebplblaa.Fai
