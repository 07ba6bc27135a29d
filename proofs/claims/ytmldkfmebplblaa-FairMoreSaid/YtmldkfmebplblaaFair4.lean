/- Walks of package fair: Rounds. -/
import Derived.Test.YtmldkfmebplblaaFair3
import Derived.Test.YtmldkfmebplblaaFairQ
namespace Go.Proofs.Ytmldkfmebplblaa.Fai
open Go.RowKit

theorem frame55 {a : Act} (h : a.tmps.size = 55) (hd : a.defers = []) : ∃ u : Nat → Value, a = { tmps := #[u 0, u 1, u 2, u 3, u 4, u 5, u 6, u 7, u 8, u 9, u 10, u 11, u 12, u 13, u 14, u 15, u 16, u 17, u 18, u 19, u 20, u 21, u 22, u 23, u 24, u 25, u 26, u 27, u 28, u 29, u 30, u 31, u 32, u 33, u 34, u 35, u 36, u 37, u 38, u 39, u 40, u 41, u 42, u 43, u 44, u 45, u 46, u 47, u 48, u 49, u 50, u 51, u 52, u 53, u 54], defers := [] } ∧ ∀ n, a.tmps.getD n undef = u n := by
  refine ⟨fun n => a.tmps.getD n undef, ?_, fun _ => rfl⟩
  have h1 := arr_lit a.tmps h
  cases a with
  | mk t d =>
    simp only at hd h1
    subst hd
    congr 1

theorem flatI (l : List Int) : l.flatMap decI = l.map (Value.int .i64) := by
  induction l with
  | nil => rfl
  | cons x l ih => simp [decI, ih]

def RoJ (n : Nat) (how : List Int) (A : Option Addr) (cap : Nat) (w : World) (target : List Int) (a : Act) (w' : World) : Prop :=
  a.tmps.size = 55 ∧ a.defers = [] ∧ a.tmps.getD 5 undef = .int .i64 n ∧ a.tmps.getD 13 undef = .slice A how.length cap ∧ a.tmps.getD 14 undef = .int .i64 how.length ∧
    ∃ (k : Nat) (out : List Int) (v : Value), a.tmps.getD 6 undef = v ∧ a.tmps.getD 15 undef = .int .i64 k ∧ k ≤ how.length ∧ out.length ≤ 4000 ∧
      w'.ownsRow w.heap.size 3 1 v out.length (out.map (Value.int .i64)) ∧ Below w.heap.size w w' ∧ roundsTo n (how.drop k) out = target
def RoJ2 (n k : Nat) (x : Int) (how out : List Int) (A : Option Addr) (cap : Nat) (w : World) (st : Nat) (a : Act) (w' : World) : Prop :=
  a.tmps.size = 55 ∧ a.defers = [] ∧ a.tmps.getD 5 undef = .int .i64 n ∧ a.tmps.getD 13 undef = .slice A how.length cap ∧ a.tmps.getD 14 undef = .int .i64 how.length ∧ a.tmps.getD 15 undef = .int .i64 k ∧
    a.tmps.getD 10 undef = .int .i64 st ∧ a.tmps.getD 40 undef = .int .i64 n ∧
    ∃ (q : Nat) (v : Value), a.tmps.getD 6 undef = v ∧ a.tmps.getD 9 undef = .int .i64 (val n x q) ∧ a.tmps.getD 41 undef = .int .i64 q ∧ q ≤ n ∧
      w'.ownsRow w.heap.size 3 1 v (out ++ rowTo n x q).length ((out ++ rowTo n x q).map (Value.int .i64)) ∧ Below w.heap.size w w'

set_option maxHeartbeats 4000000 in
set_option maxRecDepth 100000 in
theorem rounds_any (t : Int) (how : List Int) (A : Option Addr) (cap : Nat) (w : World) (hm : how.length ≤ 65536) (h64 : ∀ x ∈ how, isI64 x) (hs : Sl w w.heap.size A (how.flatMap decI)) :
    Calls Try.prog 42 #[.int .i64 t, .slice A how.length cap] w fun e w' => ∃ v, e = .returned v ∧
      w'.ownsRow w.heap.size 3 1 v (roundsTo (som t) how []).length ((roundsTo (som t) how []).map (Value.int .i64)) ∧ Below w.heap.size w w' := by
  have hle := som_le t
  have HS := Lib.hid (fun W => some_any t W)
  generalize som t = n at *
  obtain ⟨target, ht⟩ : ∃ r, roundsTo n how [] = r := ⟨_, rfl⟩
  rw [ht]
  have HT := Lib.hid ht
  have H64 := Lib.hid h64
  clear ht h64
  go_enter Try.func42, Try.ntmps42
  go_wp2_with fail
  go_step3
  go_wp2_with fail
  refine (HS.out _).mono ?_
  rintro e wx ⟨rfl, hwx⟩
  obtain rfl := hwx.symm
  go_wp2_with fail
  go_step3
  go_wp2_with fail
  refine wp_loop (RoJ n how A cap w target) (fun a' _ => how.length - (intOf (a'.tmps.getD 15 undef)).toNat) ?_ ?_
  · exact ⟨rfl, rfl, rfl, rfl, rfl, 0, [], _, rfl, rfl, Nat.zero_le _, by simp, World.ownsRow_nil _ _ _ _, Below.refl _ _, HT.out⟩
  · rintro a' w' ⟨hsz, hdf, s5, s13, s14, k, out, v, s6, s15, hk, hol, hown, hb, hrun⟩
    obtain ⟨u, rfl, hu⟩ := frame55 hsz hdf
    rw [hu] at s5 s6 s13 s14 s15
    simp only [s5, s6, s13, s14, s15]
    clear hsz hdf s5 s6 s13 s14 s15 hu
    have HX := Lib.hid hrun
    clear hrun
    obtain ⟨V, cv, rfl, _, _, _⟩ := own_slice hown
    by_cases hlt : k < how.length
    · obtain ⟨b, off, rfl, hbb, hcell⟩ := Sl_at (k := 1) (fun _ => rfl) (by omega) (hs.below hb) (by omega)
      have h0 := hcell k hlt 0 (by omega)
      simp only [decI, List.getElem?_cons_zero, Nat.add_zero, Nat.mul_one] at h0
      have hd := Lib.hid (List.drop_eq_getElem_cons hlt)
      have hx64 := H64.out how[k] (List.getElem_mem _)
      clear hcell
      generalize how[k] = x at h0 hd hx64
      obtain ⟨hx1, hx2⟩ := hx64
      by_cases hn0 : n = 0
      · have hnb := nbeq hn0
        have HE := Lib.hid (show out = target by rw [← HX.out, hd.out, roundsTo, if_pos (.inl hn0)])
        have hq : ((n : Int) == 0) = true := ibeq (by omega)
        clear hn0 hnb
        go_wp2_with fail
        rw [Exit.noGoto_ret]
        go_ret
        rw [← HE.out]
        exact ⟨_, rfl, hown, hb⟩
      · have h0n : 0 < n := by omega
        have hq : ((n : Int) == 0) = false := ibeq_no (by omega)
        by_cases hfull : 4000 < out.length + n
        · have HE := Lib.hid (show out = target by rw [← HX.out, hd.out, roundsTo, if_pos (.inr hfull)])
          have hf1 : (4000 : Int) < (out.length : Int) + (n : Int) := by omega
          clear hn0
          go_wp2_with fail
          rw [Exit.noGoto_ret]
          go_ret
          rw [← HE.out]
          exact ⟨_, rfl, hown, hb⟩
        · have HE := Lib.hid (show roundsTo n (how.drop (k + 1)) (out ++ rowTo n x n) = target by rw [← HX.out, hd.out, roundsTo, if_neg (by omega)])
          have hf1 : ¬ (4000 : Int) < (out.length : Int) + (n : Int) := by omega
          obtain ⟨t1, t2⟩ := tmod_bd x h0n
          have te := tmod_emod x h0n
          rw [Int.add_emod_right] at te
          have fc := fst_cast h0n x
          have fl := fst_lt h0n x
          have v0 := Lib.hid (show x.tmod n % (n : Int) = (val n x 0 : Nat) by rw [te, ← fc, val_zero h0n])
          clear te fc hn0
          by_cases hx2 : x.tmod 2 = 0
          · have hb2 := ibne_no hx2
            have HV := Lib.hid (fun q => val_even (n := n) hx2 q)
            clear hx2
            go_wp2_with fail
            refine wp_loop (RoJ2 n k x how out (some ⟨b, off, none⟩) cap w 1) (fun a' _ => n - (intOf (a'.tmps.getD 41 undef)).toNat) ?_ ?_
            · refine ⟨rfl, rfl, rfl, rfl, rfl, rfl, rfl, rfl, 0, _, rfl, congrArg (Value.int .i64) v0.out, rfl, Nat.zero_le _, by simpa [rowTo] using hown, hb⟩
            · rintro a' w'' ⟨hsz, hdf, s5, s13, s14, s15, s10, s40, q, v2, s6, s9, s41, hq, hown2, hb2'⟩
              obtain ⟨u, rfl, hu⟩ := frame55 hsz hdf
              rw [hu] at s5 s6 s9 s10 s13 s14 s15 s40 s41
              simp only [s5, s6, s9, s10, s13, s14, s15, s40, s41]
              clear hsz hdf s5 s6 s9 s10 s13 s14 s15 s40 s41 hu
              have hln : (out ++ rowTo n x q).length ≤ 4000 := by rw [List.length_append, rowTo_len]; omega
              by_cases hqn : q < n
              · have hvl := val_lt h0n x q
                have hnx := Lib.hid (show (val n x (q + 1) : Int) = ((val n x q : Int) + 1) % n by rw [HV.out q]; simp)
                have hrs := Lib.hid (show out ++ rowTo n x (q + 1) = (out ++ rowTo n x q) ++ [(val n x q : Int)] by rw [rowTo_succ, List.append_assoc])
                generalize val n x q = vq at *
                generalize out ++ rowTo n x q = oo at *
                go_wp2_with (at_builtin; refine wpList_append1 (.tmp 43) (.tmp 45) 34 3 _ 1 8 rfl rfl Try.underlying34 infoI rfl (by decide) w.heap.size _ _ _ _ _ _ _ _ hown2 rfl rfl ?cge rfl ?d1e ?d2e ?d3e ?d4e ?cke; case' cke => intro v' w2 hown1 hb3 _)
                case cge => first | rfl | simp
                case d1e => simp [Value.oneCell']
                case d2e => simp only [maxLen]; omega
                case d3e => omega
                case d4e => have := hb2'.size; omega
                exact ⟨⟨rfl, rfl, rfl, rfl, rfl, rfl, rfl, rfl, q + 1, v', rfl, congrArg (Value.int .i64) hnx.out.symm, rfl, hqn, by rw [hrs.out]; simpa using hown1, hb2'.trans hb3⟩, by simp [intOf]; omega⟩
              · obtain rfl : q = n := by omega
                go_wp2_with fail
                exact ⟨⟨rfl, rfl, rfl, rfl, rfl, k + 1, out ++ rowTo q x q, v2, rfl, rfl, hlt, hln, hown2, hb2', HE.out⟩, by simp [intOf]; omega⟩
          · have hb2 := ibne hx2
            have HV := Lib.hid (fun q hq => val_odd (n := n) hx2 q hq)
            clear hx2
            go_wp2_with fail
            refine wp_loop (RoJ2 n k x how out (some ⟨b, off, none⟩) cap w (n - 1)) (fun a' _ => n - (intOf (a'.tmps.getD 41 undef)).toNat) ?_ ?_
            · refine ⟨rfl, rfl, rfl, rfl, rfl, rfl, congrArg (Value.int .i64) (by omega), rfl, 0, _, rfl, congrArg (Value.int .i64) v0.out, rfl, Nat.zero_le _, by simpa [rowTo] using hown, hb⟩
            · rintro a' w'' ⟨hsz, hdf, s5, s13, s14, s15, s10, s40, q, v2, s6, s9, s41, hq, hown2, hb2'⟩
              obtain ⟨u, rfl, hu⟩ := frame55 hsz hdf
              rw [hu] at s5 s6 s9 s10 s13 s14 s15 s40 s41
              simp only [s5, s6, s9, s10, s13, s14, s15, s40, s41]
              clear hsz hdf s5 s6 s9 s10 s13 s14 s15 s40 s41 hu
              have hln : (out ++ rowTo n x q).length ≤ 4000 := by rw [List.length_append, rowTo_len]; omega
              by_cases hqn : q < n
              · have hvl := val_lt h0n x q
                have hnx := Lib.hid (show (val n x (q + 1) : Int) = ((val n x q : Int) + ((n - 1 : Nat) : Int)) % n by rw [HV.out q hqn]; simp)
                have hrs := Lib.hid (show out ++ rowTo n x (q + 1) = (out ++ rowTo n x q) ++ [(val n x q : Int)] by rw [rowTo_succ, List.append_assoc])
                generalize val n x q = vq at *
                generalize out ++ rowTo n x q = oo at *
                go_wp2_with (at_builtin; refine wpList_append1 (.tmp 43) (.tmp 45) 34 3 _ 1 8 rfl rfl Try.underlying34 infoI rfl (by decide) w.heap.size _ _ _ _ _ _ _ _ hown2 rfl rfl ?cgo rfl ?d1o ?d2o ?d3o ?d4o ?cko; case' cko => intro v' w2 hown1 hb3 _)
                case cgo => first | rfl | simp
                case d1o => simp [Value.oneCell']
                case d2o => simp only [maxLen]; omega
                case d3o => omega
                case d4o => have := hb2'.size; omega
                exact ⟨⟨rfl, rfl, rfl, rfl, rfl, rfl, rfl, rfl, q + 1, v', rfl, congrArg (Value.int .i64) hnx.out.symm, rfl, hqn, by rw [hrs.out]; simpa using hown1, hb2'.trans hb3⟩, by simp [intOf]; omega⟩
              · obtain rfl : q = n := by omega
                go_wp2_with fail
                exact ⟨⟨rfl, rfl, rfl, rfl, rfl, k + 1, out ++ rowTo q x q, v2, rfl, rfl, hlt, hln, hown2, hb2', HE.out⟩, by simp [intOf]; omega⟩
    · have HE := Lib.hid (show out = target by rw [← HX.out, List.drop_of_length_le (by omega)]; rfl)
      go_wp2_with fail
      rw [Exit.noGoto_ret]
      go_ret
      rw [← HE.out]
      exact ⟨_, rfl, hown, hb⟩

theorem rounds_sl (t : Int) (how : List Int) (A : Option Addr) (cap : Nat) (w : World) (hm : how.length ≤ 65536) (h64 : ∀ x ∈ how, isI64 x) (hs : Sl w w.heap.size A (how.flatMap decI)) :
    Calls Try.prog 42 #[.int .i64 t, .slice A how.length cap] w fun e w' => ∃ V c, e = .returned (.slice V (roundsTo (som t) how []).length c) ∧
      (roundsTo (som t) how []).length ≤ c ∧ c ≤ maxLen ∧ Sl w' w'.heap.size V ((roundsTo (som t) how []).flatMap decI) ∧ Below w.heap.size w w' :=
  (rounds_any t how A cap w hm h64 hs).mono fun e w' ⟨v, he, hown, hb⟩ => by
    rw [← flatI] at hown
    obtain ⟨V, c, rfl, h1, h2, h3⟩ := own_slice hown
    exact ⟨V, c, he, h1, h2, h3, hb⟩
end Go.Proofs.Ytmldkfmebplblaa.Fai
