/- Walks of the reference over texts: the words, the lines, the text, texts compared. -/
import Derived.Test.YtcfdphfochfeoaaDoorLi1
namespace Go.Proofs.YtcfdphfochfeoaaDoor.Li
open Go.RowKit

theorem frame29 {a : Act} (h : a.tmps.size = 29) (hd : a.defers = []) : ∃ u : Nat → Value, a = { tmps := #[u 0, u 1, u 2, u 3, u 4, u 5, u 6, u 7, u 8, u 9, u 10, u 11, u 12, u 13, u 14, u 15, u 16, u 17, u 18, u 19, u 20, u 21, u 22, u 23, u 24, u 25, u 26, u 27, u 28], defers := [] } ∧ ∀ n, a.tmps.getD n undef = u n := by
  refine ⟨fun n => a.tmps.getD n undef, ?_, fun _ => rfl⟩
  have h1 := arr_lit a.tmps h
  cases a with
  | mk t d =>
    simp only at hd h1
    subst hd
    congr 1
theorem frame36 {a : Act} (h : a.tmps.size = 36) (hd : a.defers = []) : ∃ u : Nat → Value, a = { tmps := #[u 0, u 1, u 2, u 3, u 4, u 5, u 6, u 7, u 8, u 9, u 10, u 11, u 12, u 13, u 14, u 15, u 16, u 17, u 18, u 19, u 20, u 21, u 22, u 23, u 24, u 25, u 26, u 27, u 28, u 29, u 30, u 31, u 32, u 33, u 34, u 35], defers := [] } ∧ ∀ n, a.tmps.getD n undef = u n := by
  refine ⟨fun n => a.tmps.getD n undef, ?_, fun _ => rfl⟩
  have h1 := arr_lit a.tmps h
  cases a with
  | mk t d =>
    simp only at hd h1
    subst hd
    congr 1
theorem infoS : (Tryd.prog.info? 9).map (fun i => (i.zero, i.size, i.bytes)) = some (some (.string ⟨#[]⟩), 1, 16) := by kernel_rfl
def WdJ (w0 : World) (most : Nat) (tgt : List (List UInt8)) (a : Act) (w' : World) : Prop :=
  a.tmps.size = 29 ∧ a.defers = [] ∧ a.tmps.getD 4 undef = .int .i64 most ∧ ∃ (k : Nat) (l : List UInt8) (out : List (List UInt8)) (v : Value), a.tmps.getD 0 undef = vS l ∧ a.tmps.getD 3 undef = v ∧ a.tmps.getD 5 undef = .int .i64 k ∧
    out.length = k ∧ l.length + k ≤ most ∧ w'.ownsRow w0.heap.size 9 1 v k (out.map vS) ∧ Below w0.heap.size w0 w' ∧ out ++ words l = tgt
set_option maxHeartbeats 4000000 in
set_option maxRecDepth 100000 in
theorem rwords_any (s : ByteArray) (w : World) (hs : s.size ≤ 4096) : Calls Tryd.prog 24 #[.string s] w fun e w' => ∃ v, e = .returned v ∧ w'.ownsRow w.heap.size 9 1 v (words (L s)).length ((words (L s)).map vS) ∧ Below w.heap.size w w' := by
  obtain ⟨tgt, ht⟩ : ∃ r, words (L s) = r := ⟨_, rfl⟩
  rw [ht]
  have HT := Lib.hid ht
  have HZ := Lib.hid (size_L s)
  have hs2 : s.size ≤ 9223372036854775807 := by omega
  go_enter Tryd.func24, Tryd.ntmps24
  go_wp2_with fail
  refine wp_loop (WdJ w s.size tgt) (fun a' _ => s.size + 1 - (intOf (a'.tmps.getD 5 undef)).toNat) ?_ ?_
  · exact ⟨rfl, rfl, rfl, 0, L s, [], _, congrArg Value.string (B_L s).symm, rfl, rfl, rfl, by rw [← HZ.out]; exact Nat.le_refl _, World.ownsRow_nil _ _ _ _, Below.refl _ _, HT.out⟩
  · rintro a' w' ⟨hsz, hdf, s4, k, l, out, v, s0, s3, s5, hk, hlk, hown, hb, hrun⟩
    obtain ⟨u, rfl, hu⟩ := frame29 hsz hdf
    rw [hu] at s0 s3 s4 s5
    simp only [s0, s3, s4, s5]
    clear hsz hdf s0 s3 s4 s5 hu
    have HX := Lib.hid hrun
    clear hrun
    have hle : (k : Int) ≤ (s.size : Int) := by omega
    generalize s.size = n at *
    have hh := rhead_any (B l)
    rw [show L (B l) = l from rfl] at hh
    have hl2 := head_len l
    have HW := Lib.hid (words_head l)
    have hsb := Lib.hid (size_B l)
    by_cases h0 : headW l = []
    · rw [h0] at hh
      have HE := Lib.hid (show out = tgt by rw [← HX.out, HW.out, if_pos h0, List.append_nil])
      have HH := Lib.hid hh
      clear hh h0
      go_wp2_with fail
      refine (HH.out _ (by rw [hsb.out]; omega)).mono ?_
      rintro e wx ⟨rfl, q, rfl⟩
      go_wp2_with fail
      go_ret
      rw [← HE.out, hk]
      exact ⟨_, rfl, hown, below_drewN hb _⟩
    · have hpos : 0 < (headW l).length := List.length_pos_iff.2 h0
      have hie : (headW l).isEmpty = false := by cases hq : headW l with
        | nil => exact absurd hq h0
        | cons a b => rfl
      have HB := Lib.hid hb
      have HO := Lib.hid hown
      clear hb hown
      have HE := Lib.hid (show (out ++ [headW l]) ++ words (headR l) = tgt by rw [← HX.out, HW.out, if_neg h0, List.append_assoc]; rfl)
      have HN := Lib.hid h0
      generalize headW l = x at *
      generalize headR l = y at *
      have HH := Lib.hid hh
      clear hh h0
      go_wp2_with fail
      refine (HH.out _ (by rw [hsb.out]; omega)).mono ?_
      rintro e wx ⟨rfl, q, rfl⟩
      have hown1 := own_drewN HO.out q
      have hb1 := below_drewN HB.out q
      have hwq : w.heap.size ≤ (w'.drewN q).heap.size := hb1.size
      generalize w'.drewN q = w1 at *
      go_wp2_with (at_builtin; refine wpList_append1 (.tmp 23) (.tmp 25) 22 9 _ 1 16 rfl rfl Tryd.underlying22 infoS rfl (by decide) w.heap.size _ _ _ _ _ _ _ _ hown1 rfl rfl ?cge rfl ?d1e ?d2e ?d3e ?d4e ?cke; case' cke => intro v' w2 hown2 hb2 _)
      case cge => first | rfl | simp
      case d1e => simp [Value.oneCell']
      case d2e => simp only [maxLen]; omega
      case d3e => omega
      case d4e => omega
      go_wp2_with fail
      go_roundw
      case rel => exact ⟨rfl, rfl, rfl, k + 1, y, out ++ [x], v', rfl, rfl, by go_num, by simp [hk], by omega, by simpa using hown2, hb1.trans hb2, HE.out⟩
      case measure => simp [intOf]; omega

def LnJ (w0 : World) (s : ByteArray) (tgt : List (List UInt8)) (a : Act) (w' : World) : Prop :=
  a.tmps.size = 36 ∧ a.defers = [] ∧ a.tmps.getD 0 undef = .string s ∧ ∃ (k f : Nat) (out : List (List UInt8)) (v : Value), a.tmps.getD 3 undef = v ∧ a.tmps.getD 4 undef = .int .i64 f ∧ a.tmps.getD 5 undef = .int .i64 k ∧
    f ≤ k ∧ k ≤ s.size ∧ out.length ≤ k ∧ w'.ownsRow w0.heap.size 9 1 v out.length (out.map vS) ∧ Below w0.heap.size w0 w' ∧ out ++ rl (((L s).drop f).take (k - f)) ((L s).drop k) = tgt
set_option maxHeartbeats 4000000 in
set_option maxRecDepth 100000 in
theorem rlines_any (s : ByteArray) (w : World) (hs : s.size ≤ 4096) : Calls Tryd.prog 22 #[.string s] w fun e w' => ∃ v, e = .returned v ∧ w'.ownsRow w.heap.size 9 1 v (lines (L s)).length ((lines (L s)).map vS) ∧ Below w.heap.size w w' := by
  obtain ⟨tgt, ht⟩ : ∃ r, lines (L s) = r := ⟨_, rfl⟩
  rw [ht]
  have HT := Lib.hid ht
  clear ht
  have HZ := Lib.hid (size_L s)
  have hs2 : s.size ≤ 9223372036854775807 := by omega
  go_enter Tryd.func22, Tryd.ntmps22
  go_wp2_with fail
  refine wp_loop (LnJ w s tgt) (fun a' _ => s.size - (intOf (a'.tmps.getD 5 undef)).toNat) ?_ ?_
  · exact ⟨rfl, rfl, rfl, 0, 0, [], _, rfl, rfl, rfl, Nat.le_refl _, Nat.zero_le _, Nat.zero_le _, World.ownsRow_nil _ _ _ _, Below.refl _ _, HT.out⟩
  · rintro a' w' ⟨hsz, hdf, s0, k, f, out, v, s3, s4, s5, hfk, hkn, hok, hown, hb, hrun⟩
    obtain ⟨u, rfl, hu⟩ := frame36 hsz hdf
    rw [hu] at s0 s3 s4 s5
    simp only [s0, s3, s4, s5]
    clear hsz hdf s0 s3 s4 s5 hu
    have HX := Lib.hid hrun
    clear hrun
    by_cases hlt : k < s.size
    · have hix := ix_str s k hlt
      have hl : k < (L s).length := by rw [← HZ.out]; exact hlt
      have HD := Lib.hid (drop_cons _ _ hl)
      have HC := Lib.hid (show ((L s).drop f).take (k + 1 - f) = ((L s).drop f).take (k - f) ++ [(L s).getD k 0] by
        have hl2 : k - f < ((L s).drop f).length := by rw [List.length_drop]; omega
        rw [show k + 1 - f = (k - f) + 1 by omega, List.take_succ_eq_append_getElem hl2, List.getElem_drop, getD_at hl]
        congr 3
        omega)
      have i1 : (k : Int) < (s.size : Int) := by omega
      by_cases he : (L s).getD k 0 = 10
      · have q := nbeq (congrArg UInt8.toNat he)
        rw [show (10 : UInt8).toNat = 10 from rfl] at q
        have HE := Lib.hid (show (out ++ [((L s).drop f).take (k - f)]) ++ rl (((L s).drop (k + 1)).take (k + 1 - (k + 1))) ((L s).drop (k + 1)) = tgt by
          rw [← HX.out, HD.out, rl, if_pos he, Nat.sub_self, List.take_zero, List.append_assoc]; rfl)
        generalize (L s).getD k 0 = y at *
        have hwq := hb.size
        have HB := Lib.hid hb
        clear hb he
        go_wp2_with (at_builtin; refine wpList_append1 (.tmp 16) (.tmp 21) 22 9 _ 1 16 rfl rfl Tryd.underlying22 infoS rfl (by decide) w.heap.size _ _ _ _ _ _ _ _ hown rfl rfl ?cge rfl ?d1e ?d2e ?d3e ?d4e ?cke; case' cke => intro v' w2 hown2 hb2 _)
        case cge => first | rfl | simp
        case d1e => simp [Value.oneCell']
        case d2e => simp only [maxLen]; omega
        case d3e => omega
        case d4e => omega
        go_wp2_with fail
        go_roundw
        case rel => exact ⟨rfl, rfl, rfl, k + 1, k + 1, out ++ [((L s).drop f).take (k - f)], v', rfl, by go_num, by go_num, by omega, by omega, by simp; omega, by rw [ext_B] at hown2; simpa using hown2, HB.out.trans hb2, HE.out⟩
        case measure => simp [intOf]; omega
      · have q := nbeq_no (fun e => he (UInt8.toNat_inj.1 e))
        rw [show (10 : UInt8).toNat = 10 from rfl] at q
        have HE := Lib.hid (show out ++ rl (((L s).drop f).take (k + 1 - f)) ((L s).drop (k + 1)) = tgt by
          rw [← HX.out, HD.out, HC.out, rl, if_neg he])
        generalize (L s).getD k 0 = y at *
        clear he
        go_wp2_with fail
        go_roundw
        case rel => exact ⟨rfl, rfl, rfl, k + 1, f, out, v, rfl, rfl, by go_num, by omega, by omega, by omega, hown, hb, HE.out⟩
        case measure => simp [intOf]; omega
    · obtain rfl : k = s.size := by omega
      have HE := Lib.hid (show out ++ rl ((L s).drop f) [] = tgt by
        rw [← HX.out]
        congr 2
        · rw [List.take_of_length_le]; rw [List.length_drop, ← HZ.out]; omega
        · exact (List.drop_eq_nil_of_le (by rw [← HZ.out]; exact Nat.le_refl _)).symm)
      by_cases hfl : f < s.size
      · have HF := Lib.hid (show out ++ [(L s).drop f] = tgt by
          rw [← HE.out, rl, if_neg]
          intro e
          have := congrArg List.length e
          rw [List.length_drop, ← HZ.out] at this
          simp at this; omega)
        have hwq := hb.size
        have HB := Lib.hid hb
        have i1 : (f : Int) < (s.size : Int) := by omega
        have i2 : ¬ (s.size : Int) < (s.size : Int) := by omega
        clear hb
        go_wp2_with (at_builtin; refine wpList_append1 (.tmp 29) (.tmp 33) 22 9 _ 1 16 rfl rfl Tryd.underlying22 infoS rfl (by decide) w.heap.size _ _ _ _ _ _ _ _ hown rfl rfl ?cgf rfl ?d1f ?d2f ?d3f ?d4f ?ckf; case' ckf => intro v' w2 hown2 hb2 _)
        case cgf => first | rfl | simp
        case d1f => simp [Value.oneCell']
        case d2f => simp only [maxLen]; omega
        case d3f => omega
        go_wp2_with fail
        go_ret
        rw [← HF.out]
        rw [ext_end] at hown2
        exact ⟨_, rfl, by simpa using hown2, HB.out.trans hb2⟩
      · have HF := Lib.hid (show out = tgt by
          rw [← HE.out, List.drop_eq_nil_of_le (by rw [← HZ.out]; omega), rl, if_pos rfl, List.append_nil])
        go_wp2_with fail
        go_ret
        rw [← HF.out]
        exact ⟨_, rfl, hown, hb⟩

theorem app_B (x y : List UInt8) : B x ++ B y = B (x ++ y) := L_inj (by rw [L_B]; simp [L, B])
theorem textL_snoc (ls : List (List UInt8)) (k : Nat) (h : k < ls.length) : textL (ls.take (k + 1)) = textL (ls.take k) ++ ls[k] ++ [10] := by
  unfold textL
  rw [List.take_succ_eq_append_getElem h, List.flatMap_append]
  simp
theorem textL_le (ls : List (List UInt8)) (k : Nat) : (textL (ls.take k)).length ≤ (textL ls).length := by
  conv => rhs; rw [← List.take_append_drop k ls]
  unfold textL
  rw [List.flatMap_append, List.length_append]
  omega
theorem sl_str {w : World} {Bd : Nat} {A : Option Addr} {ls : List (List UInt8)} (h : Sl w Bd A (ls.map vS)) {k : Nat} (hk : k < ls.length) : ∃ b off, A = some ⟨b, off, none⟩ ∧ b < Bd ∧ ∀ j (h : j < ls.length), w.cell? ⟨b, off + j, none⟩ = some (vS ls[j]) := by
  obtain ⟨b, off, h1, h2, h3⟩ := h.at_ (by rw [List.length_map]; omega)
  refine ⟨b, off, h1, h2, fun j hj => ?_⟩
  have := h3 j (by rw [List.length_map]; exact hj)
  rw [List.getElem_map] at this
  exact this
set_option maxHeartbeats 4000000 in
set_option maxRecDepth 100000 in
theorem rtext_any (ls : List (List UInt8)) (A : Option Addr) (cap : Nat) (w : World) (hm : ls.length ≤ 4096) (hz : (textL ls).length ≤ 65536) (hs : Sl w w.heap.size A (ls.map vS)) :
    Calls Tryd.prog 26 #[.slice A ls.length cap] w fun e w' => e = .returned (vS (textL ls)) ∧ ∃ n, w' = w.drewN n := by
  go_enter Tryd.func26, Tryd.ntmps26
  go_wp2_with fail
  go_loopw [3, 4] (fun s i wr => ∃ k : Nat, k ≤ ls.length ∧ i = .int .i64 k ∧ s = vS (textL (ls.take k)) ∧ ∃ n, wr = w.drewN n) (fun s i _ => ls.length - (intOf i).toNat)
  case atStart => exact ⟨0, Nat.zero_le _, rfl, rfl, 0, rfl⟩
  case round =>
    obtain ⟨k, hk, rfl, rfl, q, rfl⟩ := hrel
    by_cases hlt : k < ls.length
    · obtain ⟨b, off, rfl, hbb, hcell⟩ := sl_str hs hlt
      have h0 := hcell k hlt
      have HT := Lib.hid (textL_snoc ls k hlt)
      have HL := Lib.hid (textL_le ls (k + 1))
      clear hcell hs
      generalize ls[k] = x at *
      have hl2 : (textL (ls.take k)).length + x.length + 1 ≤ 65536 := by
        have := HL.out
        rw [HT.out] at this
        simp only [List.length_append, List.length_cons, List.length_nil] at this
        omega
      have hn1 : ¬ 9223372036854775807 < (textL (ls.take k)).length + x.length := by omega
      have hn2 : ¬ 9223372036854775807 < (textL (ls.take k)).length + x.length + 1 := by omega
      go_wp2_with fail
      go_roundw
      case rel => exact ⟨k + 1, by omega, by go_num, by rw [HT.out, app_B]; exact congrArg Value.string (app_B _ _), q, rfl⟩
      case measure => simp [intOf]; omega
    · obtain rfl : k = ls.length := by omega
      rw [List.take_length]
      go_wp2_with fail
      go_ret
      exact ⟨rfl, q, rfl⟩

set_option maxHeartbeats 4000000 in
theorem rsame_any (l k : List (List UInt8)) (A C : Option Addr) (c1 c2 : Nat) (w : World) (hm : l.length ≤ 4096) (hm2 : k.length ≤ 4096)
    (hs : Sl w w.heap.size A (l.map vS)) (ht : Sl w w.heap.size C (k.map vS)) :
    Calls Tryd.prog 20 #[.slice A l.length c1, .slice C k.length c2] w fun e w' => e = .returned (.bool (decide (l = k))) ∧ ∃ n, w' = w.drewN n := by
  by_cases hl : l.length = k.length
  · have hlb := nbeq hl
    have hlb2 := nbne_no hl
    have HL := Lib.hid hl
    clear hl
    go_enter Tryd.func20, Tryd.ntmps20
    go_wp2_with fail
    go_loopw [5] (fun i wr => ∃ j : Nat, j ≤ l.length ∧ i = .int .i64 j ∧ l.take j = k.take j ∧ ∃ n, wr = w.drewN n) (fun i _ => l.length - (intOf i).toNat)
    case atStart => exact ⟨0, by omega, rfl, rfl, 0, rfl⟩
    case round =>
      obtain ⟨j, hj, rfl, hjt, q, rfl⟩ := hrel
      have HJ := Lib.hid hjt
      clear hjt
      by_cases hlt : j < l.length
      · have hlt2 : j < k.length := by have := HL.out; omega
        obtain ⟨b, off, rfl, hbb, hcell⟩ := sl_str hs hlt
        obtain ⟨b', off', rfl, hbb', hcell'⟩ := sl_str ht hlt2
        have h0 : (w.drewN q).cell? _ = _ := hcell j hlt
        have g0 : (w.drewN q).cell? _ = _ := hcell' j hlt2
        clear hcell hcell'
        have i1 : (j : Int) < (k.length : Int) := by omega
        have i0 : (j : Int) < (l.length : Int) := by omega
        have hnx := Lib.hid (show l[j] = k[j] → l.take (j + 1) = k.take (j + 1) by
          intro h
          rw [List.take_succ_eq_append_getElem hlt, List.take_succ_eq_append_getElem hlt2, HJ.out, h])
        have hno := Lib.hid (show ¬ l[j] = k[j] → decide (l = k) = false by
          intro h
          rw [decide_eq_false_iff_not]
          rintro rfl
          exact h rfl)
        generalize l[j] = x at *
        generalize k[j] = y at *
        generalize hw1 : w.drewN q = w1 at *
        have HW1 := Lib.hid hw1
        clear hw1
        by_cases hn : x = y
        · have q := beq_iff_eq.2 hn
          have HN := Lib.hid (hnx.out hn)
          clear hn
          go_wp2_with fail
          go_quiet (fail)
          go_wp2
          go_roundw
          case rel => exact ⟨j + 1, by omega, by go_num, HN.out, _, by rw [← HW1.out, World.drewN_drewN]⟩
          case measure => simp [intOf]; omega
        · have q := beq_eq_false_iff_ne.2 hn
          have HN := Lib.hid (hno.out hn)
          clear hn
          go_wp2_with fail
          go_quiet (fail)
          go_wp2
          go_ret
          exact ⟨by rw [HN.out]; rfl, _, by rw [← HW1.out, World.drewN_drewN]⟩
      · have he := Lib.hid (show decide (l = k) = true by
          rw [decide_eq_true_iff]
          have := HJ.out
          rwa [List.take_of_length_le (by omega), List.take_of_length_le (by have := HL.out; omega)] at this)
        go_wp2
        go_ret
        exact ⟨by rw [he.out]; rfl, q, rfl⟩
  · have hlb2 := nbne hl
    have hn := Lib.hid (show decide (l = k) = false by simp; rintro rfl; exact hl rfl)
    clear hl
    go_enter Tryd.func20, Tryd.ntmps20
    go_wp2
    go_ret
    exact ⟨by rw [hn.out]; rfl, 0, rfl⟩
end Go.Proofs.YtcfdphfochfeoaaDoor.Li
