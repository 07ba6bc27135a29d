/- Walks of events: one word, as the reference reads it. -/
import Derived.Test.YtcfdphfochfeoaaDoorTr3
namespace Go.Proofs.YtcfdphfochfeoaaDoor.Tr
open Go.RowKit Go.Proofs.YtcfdphfochfeoaaDoor.Li Go.Proofs.YtcfdphfochfeoaaDoor.De Go.Proofs.YtcfdphfochfeoaaDoor.Ara

theorem refE_eq (w : List UInt8) (T : Nat) (hT : (w.takeWhile (· != 47)).length = T) (rd : Bool) (e : Nat) (hrd : rd = decide (0 < T ∧ w.getD (T - 1) 0 = 39)) (he : e = if rd then T - 1 else T) :
    refE w = if e < 2 then none else match prs ((w.drop 1).take (e - 1)) with
      | none => none
      | some n => match cntE (w.drop T) with
        | none => none
        | some m => match kOf (w.getD 0 0) with
          | none => none
          | some k => some ⟨k, n, rd, m⟩ := by
  have hlen := len_split (· != 47) w
  have hpre : w.takeWhile (· != 47) = w.take T := by rw [← hT]; exact (take_take_len _ w).symm
  have hpost : w.dropWhile (· != 47) = w.drop T := by rw [← hT]; exact (drop_take_len _ w).symm
  have hTl : T ≤ w.length := by omega
  have hl39 : ((w.take T).getLast? = some 39) ↔ (0 < T ∧ w.getD (T - 1) 0 = 39) := by
    cases T with
    | zero => simp
    | succ t =>
      rw [List.take_succ_eq_append_getElem (by omega), List.getLast?_append, Nat.add_sub_cancel, getD_at (by omega)]
      simp
  have hrd2 : decide ((w.take T).getLast? = some 39) = rd := by
    rw [hrd]
    exact decide_eq_decide.2 hl39
  have hbd : (if rd then (w.take T).dropLast else w.take T) = w.take e := by
    cases rd with
    | false => simp only [Bool.false_eq_true, if_false] at he ⊢; rw [he]
    | true =>
      simp only [if_true] at he ⊢
      rw [he, List.dropLast_eq_take, List.length_take, Nat.min_eq_left hTl, List.take_take, Nat.min_eq_left (by omega)]
  have hel : e ≤ w.length := by rw [he]; split <;> omega
  unfold refE
  simp only
  rw [hpre, hpost, hrd2, hbd]
  rw [List.length_take, Nat.min_eq_left hel, List.drop_take]
  rfl
theorem cnt_lt {w : List UInt8} {T : Nat} (h : T < w.length) : cntE (w.drop T) = cnt1 (w.drop (T + 1)) := by rw [List.drop_eq_getElem_cons h]; rfl
theorem cnt_ge {w : List UInt8} {T : Nat} (h : ¬ T < w.length) : cntE (w.drop T) = some 0 := by rw [List.drop_eq_nil_of_le (by omega)]; rfl
theorem tw_at {w : List UInt8} {T j : Nat} (hT : (w.takeWhile (· != 47)).length = T) (hj : j < w.length) : (w.getD j 0 = 47 → T ≤ j) ∧ (w.getD j 0 ≠ 47 → T ≠ j) := by
  constructor
  · intro h
    by_cases hc : T ≤ j
    · exact hc
    · exfalso
      have := all_take (· != 47) w (j + 1) (by omega) (w.getD j 0) (by
        rw [List.take_succ_eq_append_getElem hj, getD_at hj]; exact List.mem_append_right _ (List.mem_singleton.2 rfl))
      rw [h] at this
      exact absurd this (by decide)
  · intro h e
    subst e
    have h1 := drop_take_len (· != 47) w
    rw [hT, List.drop_eq_getElem_cons hj] at h1
    have := drop_head (p := (· != 47)) h1.symm
    rw [getD_at hj] at h
    simp at this
    exact h this
theorem oE_none {x : List UInt8} (h : refE x = none) : oE x = (⟨0, 0, false, 0⟩, false) := by unfold oE; rw [h]
theorem oE_some {x : List UInt8} {e : Ev} (h : refE x = some e) : oE x = (e, true) := by unfold oE; rw [h]
set_option maxRecDepth 100000 in
set_option maxHeartbeats 8000000 in
theorem rone_any (x : List UInt8) (hx : x ≠ []) (hl : x.length ≤ 4000) (w : World) : Calls Tryd.prog 94 #[vS x] w fun e w' => e = .returned (.tuple #[.agg #[.int .i64 (oE x).1.kind, .int .i64 (oE x).1.th, .bool (oE x).1.rd, .int .i64 (oE x).1.ct], .bool (oE x).2]) ∧ Below w.heap.size w w' := by
  have hsB := size_B x
  have hpos : 0 < x.length := List.length_pos_iff.2 hx
  obtain ⟨T, hT⟩ : ∃ T, (x.takeWhile (· != 47)).length = T := ⟨_, rfl⟩
  have hTl : T ≤ x.length := by have := len_split (· != 47) x; omega
  have HREF := Lib.hid (refE_eq x T hT)
  have HTW := Lib.hid (fun j hj => tw_at (w := x) (j := j) hT hj)
  clear hT
  obtain ⟨R, hR⟩ : ∃ R, oE x = R := ⟨_, rfl⟩
  have HR := Lib.hid hR.symm
  rw [hR]
  clear hR
  go_enter Tryd.func94, Tryd.ntmps94
  go_wp2_with fail
  go_loopw [4, 5] (fun s i wr => ∃ j : Nat, j ≤ x.length ∧ i = .int .i64 (j : Int) ∧ s = .int .i64 (if T < j then (T : Int) else (x.length : Int)) ∧ wr = w.alloc (.cells #[.int .i64 0, .int .i64 0, .bool false, .int .i64 0] 105)) (fun _ i _ => x.length - (intOf i).toNat)
  case atStart => exact ⟨0, by omega, rfl, by rw [if_neg (by omega)], rfl⟩
  case round =>
    obtain ⟨j, hj, rfl, rfl, hwr⟩ := hrel
    subst hwr
    by_cases hlt : j < x.length
    · have hix : ∀ W, (Instr.index 9 (vS x) (.int .i64 (j : Int))).run Tryd.prog W = .ok (.int .u8 ((x.getD j 0).toNat : Int)) W := fun W => ix_str (B x) j (by rw [hsB]; exact hlt) W
      obtain ⟨t1, t2⟩ := HTW.out j hlt
      have i1 : (j : Int) < (x.length : Int) := by omega
      by_cases h47 : x.getD j 0 = 47
      · have hTj := t1 h47
        have q : (((x.getD j 0).toNat : Int) == 47) = true := ibeq (by rw [h47]; rfl)
        generalize x.getD j 0 = y at *
        by_cases hTl2 : T < j
        · rw [if_pos hTl2]
          have q2 : ((T : Int) == (x.length : Int)) = false := ibeq_no (by omega)
          clear t1 t2 h47
          go_wp2_with fail
          go_roundw
          case rel => exact ⟨j + 1, by omega, by go_num, by rw [if_pos (by omega)], by trivial⟩
          case measure => simp [intOf]; omega
        · rw [if_neg hTl2]
          obtain rfl : T = j := by omega
          have q2 : ((x.length : Int) == (x.length : Int)) = true := ibeq rfl
          clear t1 t2 h47
          go_wp2_with fail
          go_roundw
          case rel => exact ⟨T + 1, by omega, by go_num, by rw [if_pos (by omega)], by trivial⟩
          case measure => simp [intOf]; omega
      · have hne := t2 h47
        have q : (((x.getD j 0).toNat : Int) == 47) = false := ibeq_no (fun e => h47 (UInt8.toNat_inj.1 (by have : (47 : UInt8).toNat = 47 := rfl; omega)))
        generalize x.getD j 0 = y at *
        have hif : (if T < j then (T : Int) else (x.length : Int)) = (if T < j + 1 then (T : Int) else (x.length : Int)) := by
          by_cases h : T < j
          · rw [if_pos h, if_pos (by omega)]
          · rw [if_neg h, if_neg (by omega)]
        have HIF := Lib.hid hif
        generalize (if T < j then (T : Int) else (x.length : Int)) = S at *
        clear t1 t2 h47 hif
        go_wp2_with fail
        go_roundw
        case rel => exact ⟨j + 1, by omega, by go_num, by rw [HIF.out], by trivial⟩
        case measure => simp [intOf]; omega
    · obtain rfl : j = x.length := by omega
      rw [show (if T < x.length then (T : Int) else (x.length : Int)) = (T : Int) by split <;> omega]
      have i1 : ¬ (x.length : Int) < (x.length : Int) := by omega
      by_cases hT0 : T = 0
      · have HE := Lib.hid (show refE x = none by
          rw [HREF.out false 0 (by rw [hT0]; simp) (by rw [hT0]; rfl)]; rfl)
        subst hT0
        have HZ := Lib.hid (HR.out.trans (oE_none HE.out))
        go_wp2_with fail
        (try simp only [Exit.inBlock, Exit.then])
        refine bodyPost_ret (v := .tuple #[.agg #[.int .i64 (⟨0, 0, false, 0⟩ : Ev).kind, .int .i64 (⟨0, 0, false, 0⟩ : Ev).th, .bool (⟨0, 0, false, 0⟩ : Ev).rd, .int .i64 (⟨0, 0, false, 0⟩ : Ev).ct], .bool false]) ?_ rfl ⟨?_, ?_⟩
        · rw [results_cell_tmp rfl]
          go_simp
        · rw [HZ.out]
        · repeat' (first | with_reducible exact below_new _ _ | with_reducible refine bset ?_ (Nat.le_refl _))
      · obtain ⟨T', rfl⟩ : ∃ T', T = T' + 1 := ⟨T - 1, by omega⟩
        have hixT : ∀ W, (Instr.index 9 (vS x) (.int .i64 (T' : Int))).run Tryd.prog W = .ok (.int .u8 ((x.getD T' 0).toNat : Int)) W := fun W => ix_str (B x) T' (by rw [hsB]; omega) W
        have k1 : (T' : Int) + 1 ≤ (x.length : Int) := by omega
        have k2 : (x.length : Int) ≤ 4000 := by omega
        by_cases h39 : x.getD T' 0 = 39
        · have q39 : (((x.getD T' 0).toNat : Int) == 39) = true := ibeq (by rw [h39]; rfl)
          have HRF := Lib.hid (HREF.out true T' (by simp only [Nat.add_sub_cancel]; exact (decide_eq_true ⟨by omega, h39⟩).symm) (by simp))
          clear h39 hT0 HREF HTW
          generalize x.getD T' 0 = z at *
          by_cases he2 : T' < 2
          · have HE := Lib.hid (show refE x = none by rw [HRF.out, if_pos he2])
            have j1 : ((T' : Nat) : Int) < 2 := by omega
            clear he2
            go_wp2_with fail
            have HZ := Lib.hid (HR.out.trans (oE_none HE.out))
            (try simp only [Exit.inBlock, Exit.then])
            refine bodyPost_ret (v := .tuple #[.agg #[.int .i64 (⟨0, 0, false, 0⟩ : Ev).kind, .int .i64 (⟨0, 0, false, 0⟩ : Ev).th, .bool (⟨0, 0, false, 0⟩ : Ev).rd, .int .i64 (⟨0, 0, false, 0⟩ : Ev).ct], .bool false]) ?_ rfl ⟨?_, ?_⟩
            · rw [results_cell_tmp rfl]
              go_simp
            · rw [HZ.out]
            · repeat' (first | with_reducible exact below_new _ _ | with_reducible refine bset ?_ (Nat.le_refl _))
          · have j1 : ¬ ((T' : Nat) : Int) < 2 := by omega
            have HSl := Lib.hid (show (B x).extract 1 (T') = B ((x.drop 1).take (T' - 1)) from ext_B (B x) 1 (T'))
            have HP := Lib.hid (De.rparse_any ((x.drop 1).take (T' - 1)) (by rw [List.length_take, List.length_drop]; omega))
            have hpc := pr_ok ((x.drop 1).take (T' - 1))
            rw [if_neg he2] at HRF
            clear he2
            generalize (x.drop 1).take (T' - 1) = bd at *
            rcases hpc with ⟨n, p1, p2⟩ | ⟨p1, p2⟩
            · rw [p2] at HP
              rw [p1] at HRF
              clear p1 p2
              by_cases hTL : T' + 1 < x.length
              · have j2 : (T' : Int) + 1 < (x.length : Int) := by omega
                have HS2 := Lib.hid (show (B x).extract (T' + 1 + 1) x.length = B (x.drop (T' + 1 + 1)) by
                  have := ext_end (B x) (T' + 1 + 1)
                  rw [hsB] at this
                  exact this)
                have HP2 := Lib.hid (De.rparse_any (x.drop (T' + 1 + 1)) (by rw [List.length_drop]; omega))
                have hpc2 := pr_ok (x.drop (T' + 1 + 1))
                rw [cnt_lt hTL] at HRF
                unfold cnt1 at HRF
                clear hTL
                generalize x.drop (T' + 1 + 1) = q at *
                rcases hpc2 with ⟨m, p1, p2⟩ | ⟨p1, p2⟩
                · rw [p2] at HP2
                  rw [p1] at HRF
                  clear p1 p2
                  by_cases hm : m = 0
                  · have HE := Lib.hid (show refE x = none by rw [HRF.out]; simp [hm])
                    subst hm
                    go_wp2_with fail
                    rw [HSl.out]
                    refine (HP.out _).mono ?_
                    rintro e wx ⟨rfl, hwx⟩
                    obtain rfl := hwx.symm
                    go_wp2_with fail
                    rw [HS2.out]
                    refine (HP2.out _).mono ?_
                    rintro e wx ⟨rfl, hwx⟩
                    obtain rfl := hwx.symm
                    go_wp2_with fail
                    have HZ := Lib.hid (HR.out.trans (oE_none HE.out))
                    (try simp only [Exit.inBlock, Exit.then])
                    refine bodyPost_ret (v := .tuple #[.agg #[.int .i64 (⟨0, 0, false, 0⟩ : Ev).kind, .int .i64 (⟨0, 0, false, 0⟩ : Ev).th, .bool (⟨0, 0, false, 0⟩ : Ev).rd, .int .i64 (⟨0, 0, false, 0⟩ : Ev).ct], .bool false]) ?_ rfl ⟨?_, ?_⟩
                    · rw [results_cell_tmp rfl]
                      go_simp
                    · rw [HZ.out]
                    · repeat' (first | with_reducible exact below_new _ _ | with_reducible refine bset ?_ (Nat.le_refl _))
                  · have qm := ibeq_no hm
                    have HRG := Lib.hid (show refE x = match kOf (x.getD 0 0) with | none => none | some k => some ⟨k, n, true, m⟩ by rw [HRF.out]; simp [hm])
                    clear HRF hm
                    go_wp2_with fail
                    rw [HSl.out]
                    refine (HP.out _).mono ?_
                    rintro e wx ⟨rfl, hwx⟩
                    obtain rfl := hwx.symm
                    go_wp2_with fail
                    rw [HS2.out]
                    refine (HP2.out _).mono ?_
                    rintro e wx ⟨rfl, hwx⟩
                    obtain rfl := hwx.symm
                    go_wp2_with fail
                    have rblk := blk_new w (.cells #[.int .i64 0, .int .i64 0, .bool false, .int .i64 0] 105)
                    have hbn := Lib.hid (below_new w (.cells #[.int .i64 0, .int .i64 0, .bool false, .int .i64 0] 105))
                    have RB := Lib.hid rblk
                    clear rblk
                    generalize (w.alloc (.cells #[.int .i64 0, .int .i64 0, .bool false, .int .i64 0] 105)) = W1 at *
                    go_loopw [13] (fun kk wr => ∃ j : Nat, j ≤ 6 ∧ kk = .int .i64 (j : Int) ∧ (∀ i, i < j → x.getD 0 0 ≠ lets.getD i 0) ∧ ∃ qn, wr = W1.drewN qn) (fun kk _ => 6 - (intOf kk).toNat)
                    case atStart => exact ⟨0, by omega, rfl, fun i h => by omega, 0, rfl⟩
                    case round =>
                      obtain ⟨jj, hjj, rfl, hno, qn, rfl⟩ := hrel
                      have rblk : (W1.drewN qn).heap[w.heap.size]? = some (.cells #[.int .i64 0, .int .i64 0, .bool false, .int .i64 0] 105 (0, 0)) := RB.out
                      have r0 := blk_cell rblk 0 (by simp)
                      have r1 := blk_cell rblk 1 (by simp)
                      have r2 := blk_cell rblk 2 (by simp)
                      have r3 := blk_cell rblk 3 (by simp)
                      have rf := fun i => blk_free rblk i
                      simp only [List.getElem_toArray, List.getElem_cons_zero, List.getElem_cons_succ] at r0 r1 r2 r3
                      have RB2 := Lib.hid rblk
                      have HBq := Lib.hid (below_drewN hbn.out qn)
                      have HNO := Lib.hid hno
                      obtain ⟨W2, hW2⟩ : ∃ W2, W1.drewN qn = W2 := ⟨_, rfl⟩
                      have HW2 := Lib.hid hW2
                      rw [hW2] at r0 r1 r2 r3 HBq RB2 ⊢
                      simp only [hW2] at rf
                      clear hno rblk hW2
                      by_cases hlt2 : jj < 6
                      · have hlx : ∀ W, (Instr.index 9 (.string (⟨#[110, 97, 101, 120, 114, 98]⟩ : ByteArray)) (.int .i64 (jj : Int))).run Tryd.prog W = .ok (.int .u8 ((lets.getD jj 0).toNat : Int)) W := fun W => ix_str (B lets) jj hlt2 W
                        have hx0 : ∀ W, (Instr.index 9 (vS x) (.int .i64 0)).run Tryd.prog W = .ok (.int .u8 ((x.getD 0 0).toNat : Int)) W := fun W => ix_str (B x) 0 (by rw [hsB]; omega) W
                        have i6 : (jj : Int) ≤ 5 := by omega
                        have hkl := Lib.hid (kOf_lets jj hlt2)
                        have HS := Lib.hid (show x.getD 0 0 ≠ lets.getD jj 0 → ∀ i, i < jj + 1 → x.getD 0 0 ≠ lets.getD i 0 by
                          intro h i hi
                          by_cases e : i = jj
                          · subst e; exact h
                          · exact HNO.out i (by omega))
                        generalize lets.getD jj 0 = y at *
                        by_cases he : y = x.getD 0 0
                        · have q := nbeq (congrArg UInt8.toNat he)
                          have HE := Lib.hid (HR.out.trans (oE_some (show refE x = some ⟨jj, n, true, m⟩ by rw [HRG.out, ← he, hkl.out])))
                          clear he HS HRG
                          generalize x.getD 0 0 = c0 at *
                          go_wp2_with fail
                          go_quiet (fail)
                          have s0 : (W2.drewN nq).cell? ⟨w.heap.size, 0, none⟩ = _ := r0
                          have s1 : (W2.drewN nq).cell? ⟨w.heap.size, 1, none⟩ = _ := r1
                          have s2 : (W2.drewN nq).cell? ⟨w.heap.size, 2, none⟩ = _ := r2
                          have s3 : (W2.drewN nq).cell? ⟨w.heap.size, 3, none⟩ = _ := r3
                          have sf : ∀ i, (W2.drewN nq).frozen? ⟨w.heap.size, i, none⟩ = false := fun i => rf i
                          have HBz := Lib.hid (below_drewN HBq.out nq)
                          generalize W2.drewN nq = W3 at *
                          go_wp2_with fail
                          (try simp only [Exit.inBlock, Exit.then])
                          refine bodyPost_ret (v := .tuple #[.agg #[.int .i64 (⟨jj, n, true, m⟩ : Ev).kind, .int .i64 (⟨jj, n, true, m⟩ : Ev).th, .bool (⟨jj, n, true, m⟩ : Ev).rd, .int .i64 (⟨jj, n, true, m⟩ : Ev).ct], .bool true]) ?_ rfl ⟨?_, ?_⟩
                          · rw [results_cell_tmp rfl]
                            go_simp
                          · rw [HE.out]
                          · repeat' (first | with_reducible exact HBz.out | with_reducible refine bset ?_ (Nat.le_refl _))
                        · have q := nbeq_no (fun e => he (UInt8.toNat_inj.1 e))
                          have HS := Lib.hid (HS.out (fun e => he e.symm))
                          clear he
                          generalize hc0 : x.getD 0 0 = c0 at *
                          go_wp2_with fail
                          go_quiet (fail)
                          go_wp2_with fail
                          go_roundw
                          case rel => exact ⟨jj + 1, by omega, by go_num, HS.out, qn + nq, by rw [← HW2.out, World.drewN_drewN]⟩
                          case measure => simp [intOf]; omega
                      · have i6 : ¬ (jj : Int) ≤ 5 := by omega
                        have HE := Lib.hid (show refE x = none by rw [HRG.out, (kind_no (c := x.getD 0 0) (fun i hi => HNO.out i (by omega))).2])
                        have HZ := Lib.hid (HR.out.trans (oE_none HE.out))
                        clear HRG
                        go_wp2_with fail
                        (try simp only [Exit.inBlock, Exit.then])
                        refine bodyPost_ret (v := .tuple #[.agg #[.int .i64 (⟨0, 0, false, 0⟩ : Ev).kind, .int .i64 (⟨0, 0, false, 0⟩ : Ev).th, .bool (⟨0, 0, false, 0⟩ : Ev).rd, .int .i64 (⟨0, 0, false, 0⟩ : Ev).ct], .bool false]) ?_ rfl ⟨?_, ?_⟩
                        · rw [results_cell_tmp rfl]
                          go_simp
                        · rw [HZ.out]
                        · repeat' (first | with_reducible exact HBq.out | with_reducible refine bset ?_ (Nat.le_refl _))
                · have HE := Lib.hid (show refE x = none by rw [HRF.out, p1])
                  rw [p2] at HP2
                  clear p1 p2
                  go_wp2_with fail
                  rw [HSl.out]
                  refine (HP.out _).mono ?_
                  rintro e wx ⟨rfl, hwx⟩
                  obtain rfl := hwx.symm
                  go_wp2_with fail
                  rw [HS2.out]
                  refine (HP2.out _).mono ?_
                  rintro e wx ⟨rfl, hwx⟩
                  obtain rfl := hwx.symm
                  go_wp2_with fail
                  have HZ := Lib.hid (HR.out.trans (oE_none HE.out))
                  (try simp only [Exit.inBlock, Exit.then])
                  refine bodyPost_ret (v := .tuple #[.agg #[.int .i64 (⟨0, 0, false, 0⟩ : Ev).kind, .int .i64 (⟨0, 0, false, 0⟩ : Ev).th, .bool (⟨0, 0, false, 0⟩ : Ev).rd, .int .i64 (⟨0, 0, false, 0⟩ : Ev).ct], .bool false]) ?_ rfl ⟨?_, ?_⟩
                  · rw [results_cell_tmp rfl]
                    go_simp
                  · rw [HZ.out]
                  · repeat' (first | with_reducible exact below_new _ _ | with_reducible refine bset ?_ (Nat.le_refl _))
              · have j2 : ¬ (T' : Int) + 1 < (x.length : Int) := by omega
                have HRG := Lib.hid (show refE x = match kOf (x.getD 0 0) with | none => none | some k => some ⟨k, n, true, 0⟩ by rw [HRF.out, cnt_ge hTL])
                clear HRF hTL
                go_wp2_with fail
                rw [HSl.out]
                refine (HP.out _).mono ?_
                rintro e wx ⟨rfl, hwx⟩
                obtain rfl := hwx.symm
                go_wp2_with fail
                have rblk := blk_new w (.cells #[.int .i64 0, .int .i64 0, .bool false, .int .i64 0] 105)
                have hbn := Lib.hid (below_new w (.cells #[.int .i64 0, .int .i64 0, .bool false, .int .i64 0] 105))
                have RB := Lib.hid rblk
                clear rblk
                generalize (w.alloc (.cells #[.int .i64 0, .int .i64 0, .bool false, .int .i64 0] 105)) = W1 at *
                go_loopw [13] (fun kk wr => ∃ j : Nat, j ≤ 6 ∧ kk = .int .i64 (j : Int) ∧ (∀ i, i < j → x.getD 0 0 ≠ lets.getD i 0) ∧ ∃ qn, wr = W1.drewN qn) (fun kk _ => 6 - (intOf kk).toNat)
                case atStart => exact ⟨0, by omega, rfl, fun i h => by omega, 0, rfl⟩
                case round =>
                  obtain ⟨jj, hjj, rfl, hno, qn, rfl⟩ := hrel
                  have rblk : (W1.drewN qn).heap[w.heap.size]? = some (.cells #[.int .i64 0, .int .i64 0, .bool false, .int .i64 0] 105 (0, 0)) := RB.out
                  have r0 := blk_cell rblk 0 (by simp)
                  have r1 := blk_cell rblk 1 (by simp)
                  have r2 := blk_cell rblk 2 (by simp)
                  have r3 := blk_cell rblk 3 (by simp)
                  have rf := fun i => blk_free rblk i
                  simp only [List.getElem_toArray, List.getElem_cons_zero, List.getElem_cons_succ] at r0 r1 r2 r3
                  have RB2 := Lib.hid rblk
                  have HBq := Lib.hid (below_drewN hbn.out qn)
                  have HNO := Lib.hid hno
                  obtain ⟨W2, hW2⟩ : ∃ W2, W1.drewN qn = W2 := ⟨_, rfl⟩
                  have HW2 := Lib.hid hW2
                  rw [hW2] at r0 r1 r2 r3 HBq RB2 ⊢
                  simp only [hW2] at rf
                  clear hno rblk hW2
                  by_cases hlt2 : jj < 6
                  · have hlx : ∀ W, (Instr.index 9 (.string (⟨#[110, 97, 101, 120, 114, 98]⟩ : ByteArray)) (.int .i64 (jj : Int))).run Tryd.prog W = .ok (.int .u8 ((lets.getD jj 0).toNat : Int)) W := fun W => ix_str (B lets) jj hlt2 W
                    have hx0 : ∀ W, (Instr.index 9 (vS x) (.int .i64 0)).run Tryd.prog W = .ok (.int .u8 ((x.getD 0 0).toNat : Int)) W := fun W => ix_str (B x) 0 (by rw [hsB]; omega) W
                    have i6 : (jj : Int) ≤ 5 := by omega
                    have hkl := Lib.hid (kOf_lets jj hlt2)
                    have HS := Lib.hid (show x.getD 0 0 ≠ lets.getD jj 0 → ∀ i, i < jj + 1 → x.getD 0 0 ≠ lets.getD i 0 by
                      intro h i hi
                      by_cases e : i = jj
                      · subst e; exact h
                      · exact HNO.out i (by omega))
                    generalize lets.getD jj 0 = y at *
                    by_cases he : y = x.getD 0 0
                    · have q := nbeq (congrArg UInt8.toNat he)
                      have HE := Lib.hid (HR.out.trans (oE_some (show refE x = some ⟨jj, n, true, 0⟩ by rw [HRG.out, ← he, hkl.out])))
                      clear he HS HRG
                      generalize x.getD 0 0 = c0 at *
                      go_wp2_with fail
                      go_quiet (fail)
                      have s0 : (W2.drewN nq).cell? ⟨w.heap.size, 0, none⟩ = _ := r0
                      have s1 : (W2.drewN nq).cell? ⟨w.heap.size, 1, none⟩ = _ := r1
                      have s2 : (W2.drewN nq).cell? ⟨w.heap.size, 2, none⟩ = _ := r2
                      have s3 : (W2.drewN nq).cell? ⟨w.heap.size, 3, none⟩ = _ := r3
                      have sf : ∀ i, (W2.drewN nq).frozen? ⟨w.heap.size, i, none⟩ = false := fun i => rf i
                      have HBz := Lib.hid (below_drewN HBq.out nq)
                      generalize W2.drewN nq = W3 at *
                      go_wp2_with fail
                      (try simp only [Exit.inBlock, Exit.then])
                      refine bodyPost_ret (v := .tuple #[.agg #[.int .i64 (⟨jj, n, true, 0⟩ : Ev).kind, .int .i64 (⟨jj, n, true, 0⟩ : Ev).th, .bool (⟨jj, n, true, 0⟩ : Ev).rd, .int .i64 (⟨jj, n, true, 0⟩ : Ev).ct], .bool true]) ?_ rfl ⟨?_, ?_⟩
                      · rw [results_cell_tmp rfl]
                        go_simp
                      · rw [HE.out]
                      · repeat' (first | with_reducible exact HBz.out | with_reducible refine bset ?_ (Nat.le_refl _))
                    · have q := nbeq_no (fun e => he (UInt8.toNat_inj.1 e))
                      have HS := Lib.hid (HS.out (fun e => he e.symm))
                      clear he
                      generalize hc0 : x.getD 0 0 = c0 at *
                      go_wp2_with fail
                      go_quiet (fail)
                      go_wp2_with fail
                      go_roundw
                      case rel => exact ⟨jj + 1, by omega, by go_num, HS.out, qn + nq, by rw [← HW2.out, World.drewN_drewN]⟩
                      case measure => simp [intOf]; omega
                  · have i6 : ¬ (jj : Int) ≤ 5 := by omega
                    have HE := Lib.hid (show refE x = none by rw [HRG.out, (kind_no (c := x.getD 0 0) (fun i hi => HNO.out i (by omega))).2])
                    have HZ := Lib.hid (HR.out.trans (oE_none HE.out))
                    clear HRG
                    go_wp2_with fail
                    (try simp only [Exit.inBlock, Exit.then])
                    refine bodyPost_ret (v := .tuple #[.agg #[.int .i64 (⟨0, 0, false, 0⟩ : Ev).kind, .int .i64 (⟨0, 0, false, 0⟩ : Ev).th, .bool (⟨0, 0, false, 0⟩ : Ev).rd, .int .i64 (⟨0, 0, false, 0⟩ : Ev).ct], .bool false]) ?_ rfl ⟨?_, ?_⟩
                    · rw [results_cell_tmp rfl]
                      go_simp
                    · rw [HZ.out]
                    · repeat' (first | with_reducible exact HBq.out | with_reducible refine bset ?_ (Nat.le_refl _))
            · have HE := Lib.hid (show refE x = none by rw [HRF.out, p1])
              rw [p2] at HP
              clear p1 p2
              go_wp2_with fail
              rw [HSl.out]
              refine (HP.out _).mono ?_
              rintro e wx ⟨rfl, hwx⟩
              obtain rfl := hwx.symm
              go_wp2_with fail
              have HZ := Lib.hid (HR.out.trans (oE_none HE.out))
              (try simp only [Exit.inBlock, Exit.then])
              refine bodyPost_ret (v := .tuple #[.agg #[.int .i64 (⟨0, 0, false, 0⟩ : Ev).kind, .int .i64 (⟨0, 0, false, 0⟩ : Ev).th, .bool (⟨0, 0, false, 0⟩ : Ev).rd, .int .i64 (⟨0, 0, false, 0⟩ : Ev).ct], .bool false]) ?_ rfl ⟨?_, ?_⟩
              · rw [results_cell_tmp rfl]
                go_simp
              · rw [HZ.out]
              · repeat' (first | with_reducible exact below_new _ _ | with_reducible refine bset ?_ (Nat.le_refl _))
        · have q39 : (((x.getD T' 0).toNat : Int) == 39) = false := ibeq_no (fun e => h39 (UInt8.toNat_inj.1 (by have : (39 : UInt8).toNat = 39 := rfl; omega)))
          have HRF := Lib.hid (HREF.out false (T' + 1) (by simp only [Nat.add_sub_cancel]; exact (decide_eq_false (fun h => h39 h.2)).symm) (by simp))
          clear h39 hT0 HREF HTW
          generalize x.getD T' 0 = z at *
          by_cases he2 : (T' + 1) < 2
          · have HE := Lib.hid (show refE x = none by rw [HRF.out, if_pos he2])
            have j1 : (((T' + 1) : Nat) : Int) < 2 := by omega
            clear he2
            go_wp2_with fail
            have HZ := Lib.hid (HR.out.trans (oE_none HE.out))
            (try simp only [Exit.inBlock, Exit.then])
            refine bodyPost_ret (v := .tuple #[.agg #[.int .i64 (⟨0, 0, false, 0⟩ : Ev).kind, .int .i64 (⟨0, 0, false, 0⟩ : Ev).th, .bool (⟨0, 0, false, 0⟩ : Ev).rd, .int .i64 (⟨0, 0, false, 0⟩ : Ev).ct], .bool false]) ?_ rfl ⟨?_, ?_⟩
            · rw [results_cell_tmp rfl]
              go_simp
            · rw [HZ.out]
            · repeat' (first | with_reducible exact below_new _ _ | with_reducible refine bset ?_ (Nat.le_refl _))
          · have j1 : ¬ (((T' + 1) : Nat) : Int) < 2 := by omega
            have HSl := Lib.hid (show (B x).extract 1 ((T' + 1)) = B ((x.drop 1).take ((T' + 1) - 1)) from ext_B (B x) 1 ((T' + 1)))
            have HP := Lib.hid (De.rparse_any ((x.drop 1).take ((T' + 1) - 1)) (by rw [List.length_take, List.length_drop]; omega))
            have hpc := pr_ok ((x.drop 1).take ((T' + 1) - 1))
            rw [if_neg he2] at HRF
            clear he2
            generalize (x.drop 1).take ((T' + 1) - 1) = bd at *
            rcases hpc with ⟨n, p1, p2⟩ | ⟨p1, p2⟩
            · rw [p2] at HP
              rw [p1] at HRF
              clear p1 p2
              by_cases hTL : T' + 1 < x.length
              · have j2 : (T' : Int) + 1 < (x.length : Int) := by omega
                have HS2 := Lib.hid (show (B x).extract (T' + 1 + 1) x.length = B (x.drop (T' + 1 + 1)) by
                  have := ext_end (B x) (T' + 1 + 1)
                  rw [hsB] at this
                  exact this)
                have HP2 := Lib.hid (De.rparse_any (x.drop (T' + 1 + 1)) (by rw [List.length_drop]; omega))
                have hpc2 := pr_ok (x.drop (T' + 1 + 1))
                rw [cnt_lt hTL] at HRF
                unfold cnt1 at HRF
                clear hTL
                generalize x.drop (T' + 1 + 1) = q at *
                rcases hpc2 with ⟨m, p1, p2⟩ | ⟨p1, p2⟩
                · rw [p2] at HP2
                  rw [p1] at HRF
                  clear p1 p2
                  by_cases hm : m = 0
                  · have HE := Lib.hid (show refE x = none by rw [HRF.out]; simp [hm])
                    subst hm
                    go_wp2_with fail
                    rw [HSl.out]
                    refine (HP.out _).mono ?_
                    rintro e wx ⟨rfl, hwx⟩
                    obtain rfl := hwx.symm
                    go_wp2_with fail
                    rw [HS2.out]
                    refine (HP2.out _).mono ?_
                    rintro e wx ⟨rfl, hwx⟩
                    obtain rfl := hwx.symm
                    go_wp2_with fail
                    have HZ := Lib.hid (HR.out.trans (oE_none HE.out))
                    (try simp only [Exit.inBlock, Exit.then])
                    refine bodyPost_ret (v := .tuple #[.agg #[.int .i64 (⟨0, 0, false, 0⟩ : Ev).kind, .int .i64 (⟨0, 0, false, 0⟩ : Ev).th, .bool (⟨0, 0, false, 0⟩ : Ev).rd, .int .i64 (⟨0, 0, false, 0⟩ : Ev).ct], .bool false]) ?_ rfl ⟨?_, ?_⟩
                    · rw [results_cell_tmp rfl]
                      go_simp
                    · rw [HZ.out]
                    · repeat' (first | with_reducible exact below_new _ _ | with_reducible refine bset ?_ (Nat.le_refl _))
                  · have qm := ibeq_no hm
                    have HRG := Lib.hid (show refE x = match kOf (x.getD 0 0) with | none => none | some k => some ⟨k, n, false, m⟩ by rw [HRF.out]; simp [hm])
                    clear HRF hm
                    go_wp2_with fail
                    rw [HSl.out]
                    refine (HP.out _).mono ?_
                    rintro e wx ⟨rfl, hwx⟩
                    obtain rfl := hwx.symm
                    go_wp2_with fail
                    rw [HS2.out]
                    refine (HP2.out _).mono ?_
                    rintro e wx ⟨rfl, hwx⟩
                    obtain rfl := hwx.symm
                    go_wp2_with fail
                    have rblk := blk_new w (.cells #[.int .i64 0, .int .i64 0, .bool false, .int .i64 0] 105)
                    have hbn := Lib.hid (below_new w (.cells #[.int .i64 0, .int .i64 0, .bool false, .int .i64 0] 105))
                    have RB := Lib.hid rblk
                    clear rblk
                    generalize (w.alloc (.cells #[.int .i64 0, .int .i64 0, .bool false, .int .i64 0] 105)) = W1 at *
                    go_loopw [13] (fun kk wr => ∃ j : Nat, j ≤ 6 ∧ kk = .int .i64 (j : Int) ∧ (∀ i, i < j → x.getD 0 0 ≠ lets.getD i 0) ∧ ∃ qn, wr = W1.drewN qn) (fun kk _ => 6 - (intOf kk).toNat)
                    case atStart => exact ⟨0, by omega, rfl, fun i h => by omega, 0, rfl⟩
                    case round =>
                      obtain ⟨jj, hjj, rfl, hno, qn, rfl⟩ := hrel
                      have rblk : (W1.drewN qn).heap[w.heap.size]? = some (.cells #[.int .i64 0, .int .i64 0, .bool false, .int .i64 0] 105 (0, 0)) := RB.out
                      have r0 := blk_cell rblk 0 (by simp)
                      have r1 := blk_cell rblk 1 (by simp)
                      have r2 := blk_cell rblk 2 (by simp)
                      have r3 := blk_cell rblk 3 (by simp)
                      have rf := fun i => blk_free rblk i
                      simp only [List.getElem_toArray, List.getElem_cons_zero, List.getElem_cons_succ] at r0 r1 r2 r3
                      have RB2 := Lib.hid rblk
                      have HBq := Lib.hid (below_drewN hbn.out qn)
                      have HNO := Lib.hid hno
                      obtain ⟨W2, hW2⟩ : ∃ W2, W1.drewN qn = W2 := ⟨_, rfl⟩
                      have HW2 := Lib.hid hW2
                      rw [hW2] at r0 r1 r2 r3 HBq RB2 ⊢
                      simp only [hW2] at rf
                      clear hno rblk hW2
                      by_cases hlt2 : jj < 6
                      · have hlx : ∀ W, (Instr.index 9 (.string (⟨#[110, 97, 101, 120, 114, 98]⟩ : ByteArray)) (.int .i64 (jj : Int))).run Tryd.prog W = .ok (.int .u8 ((lets.getD jj 0).toNat : Int)) W := fun W => ix_str (B lets) jj hlt2 W
                        have hx0 : ∀ W, (Instr.index 9 (vS x) (.int .i64 0)).run Tryd.prog W = .ok (.int .u8 ((x.getD 0 0).toNat : Int)) W := fun W => ix_str (B x) 0 (by rw [hsB]; omega) W
                        have i6 : (jj : Int) ≤ 5 := by omega
                        have hkl := Lib.hid (kOf_lets jj hlt2)
                        have HS := Lib.hid (show x.getD 0 0 ≠ lets.getD jj 0 → ∀ i, i < jj + 1 → x.getD 0 0 ≠ lets.getD i 0 by
                          intro h i hi
                          by_cases e : i = jj
                          · subst e; exact h
                          · exact HNO.out i (by omega))
                        generalize lets.getD jj 0 = y at *
                        by_cases he : y = x.getD 0 0
                        · have q := nbeq (congrArg UInt8.toNat he)
                          have HE := Lib.hid (HR.out.trans (oE_some (show refE x = some ⟨jj, n, false, m⟩ by rw [HRG.out, ← he, hkl.out])))
                          clear he HS HRG
                          generalize x.getD 0 0 = c0 at *
                          go_wp2_with fail
                          go_quiet (fail)
                          have s0 : (W2.drewN nq).cell? ⟨w.heap.size, 0, none⟩ = _ := r0
                          have s1 : (W2.drewN nq).cell? ⟨w.heap.size, 1, none⟩ = _ := r1
                          have s2 : (W2.drewN nq).cell? ⟨w.heap.size, 2, none⟩ = _ := r2
                          have s3 : (W2.drewN nq).cell? ⟨w.heap.size, 3, none⟩ = _ := r3
                          have sf : ∀ i, (W2.drewN nq).frozen? ⟨w.heap.size, i, none⟩ = false := fun i => rf i
                          have HBz := Lib.hid (below_drewN HBq.out nq)
                          generalize W2.drewN nq = W3 at *
                          go_wp2_with fail
                          (try simp only [Exit.inBlock, Exit.then])
                          refine bodyPost_ret (v := .tuple #[.agg #[.int .i64 (⟨jj, n, false, m⟩ : Ev).kind, .int .i64 (⟨jj, n, false, m⟩ : Ev).th, .bool (⟨jj, n, false, m⟩ : Ev).rd, .int .i64 (⟨jj, n, false, m⟩ : Ev).ct], .bool true]) ?_ rfl ⟨?_, ?_⟩
                          · rw [results_cell_tmp rfl]
                            go_simp
                          · rw [HE.out]
                          · repeat' (first | with_reducible exact HBz.out | with_reducible refine bset ?_ (Nat.le_refl _))
                        · have q := nbeq_no (fun e => he (UInt8.toNat_inj.1 e))
                          have HS := Lib.hid (HS.out (fun e => he e.symm))
                          clear he
                          generalize hc0 : x.getD 0 0 = c0 at *
                          go_wp2_with fail
                          go_quiet (fail)
                          go_wp2_with fail
                          go_roundw
                          case rel => exact ⟨jj + 1, by omega, by go_num, HS.out, qn + nq, by rw [← HW2.out, World.drewN_drewN]⟩
                          case measure => simp [intOf]; omega
                      · have i6 : ¬ (jj : Int) ≤ 5 := by omega
                        have HE := Lib.hid (show refE x = none by rw [HRG.out, (kind_no (c := x.getD 0 0) (fun i hi => HNO.out i (by omega))).2])
                        have HZ := Lib.hid (HR.out.trans (oE_none HE.out))
                        clear HRG
                        go_wp2_with fail
                        (try simp only [Exit.inBlock, Exit.then])
                        refine bodyPost_ret (v := .tuple #[.agg #[.int .i64 (⟨0, 0, false, 0⟩ : Ev).kind, .int .i64 (⟨0, 0, false, 0⟩ : Ev).th, .bool (⟨0, 0, false, 0⟩ : Ev).rd, .int .i64 (⟨0, 0, false, 0⟩ : Ev).ct], .bool false]) ?_ rfl ⟨?_, ?_⟩
                        · rw [results_cell_tmp rfl]
                          go_simp
                        · rw [HZ.out]
                        · repeat' (first | with_reducible exact HBq.out | with_reducible refine bset ?_ (Nat.le_refl _))
                · have HE := Lib.hid (show refE x = none by rw [HRF.out, p1])
                  rw [p2] at HP2
                  clear p1 p2
                  go_wp2_with fail
                  rw [HSl.out]
                  refine (HP.out _).mono ?_
                  rintro e wx ⟨rfl, hwx⟩
                  obtain rfl := hwx.symm
                  go_wp2_with fail
                  rw [HS2.out]
                  refine (HP2.out _).mono ?_
                  rintro e wx ⟨rfl, hwx⟩
                  obtain rfl := hwx.symm
                  go_wp2_with fail
                  have HZ := Lib.hid (HR.out.trans (oE_none HE.out))
                  (try simp only [Exit.inBlock, Exit.then])
                  refine bodyPost_ret (v := .tuple #[.agg #[.int .i64 (⟨0, 0, false, 0⟩ : Ev).kind, .int .i64 (⟨0, 0, false, 0⟩ : Ev).th, .bool (⟨0, 0, false, 0⟩ : Ev).rd, .int .i64 (⟨0, 0, false, 0⟩ : Ev).ct], .bool false]) ?_ rfl ⟨?_, ?_⟩
                  · rw [results_cell_tmp rfl]
                    go_simp
                  · rw [HZ.out]
                  · repeat' (first | with_reducible exact below_new _ _ | with_reducible refine bset ?_ (Nat.le_refl _))
              · have j2 : ¬ (T' : Int) + 1 < (x.length : Int) := by omega
                have HRG := Lib.hid (show refE x = match kOf (x.getD 0 0) with | none => none | some k => some ⟨k, n, false, 0⟩ by rw [HRF.out, cnt_ge hTL])
                clear HRF hTL
                go_wp2_with fail
                rw [HSl.out]
                refine (HP.out _).mono ?_
                rintro e wx ⟨rfl, hwx⟩
                obtain rfl := hwx.symm
                go_wp2_with fail
                have rblk := blk_new w (.cells #[.int .i64 0, .int .i64 0, .bool false, .int .i64 0] 105)
                have hbn := Lib.hid (below_new w (.cells #[.int .i64 0, .int .i64 0, .bool false, .int .i64 0] 105))
                have RB := Lib.hid rblk
                clear rblk
                generalize (w.alloc (.cells #[.int .i64 0, .int .i64 0, .bool false, .int .i64 0] 105)) = W1 at *
                go_loopw [13] (fun kk wr => ∃ j : Nat, j ≤ 6 ∧ kk = .int .i64 (j : Int) ∧ (∀ i, i < j → x.getD 0 0 ≠ lets.getD i 0) ∧ ∃ qn, wr = W1.drewN qn) (fun kk _ => 6 - (intOf kk).toNat)
                case atStart => exact ⟨0, by omega, rfl, fun i h => by omega, 0, rfl⟩
                case round =>
                  obtain ⟨jj, hjj, rfl, hno, qn, rfl⟩ := hrel
                  have rblk : (W1.drewN qn).heap[w.heap.size]? = some (.cells #[.int .i64 0, .int .i64 0, .bool false, .int .i64 0] 105 (0, 0)) := RB.out
                  have r0 := blk_cell rblk 0 (by simp)
                  have r1 := blk_cell rblk 1 (by simp)
                  have r2 := blk_cell rblk 2 (by simp)
                  have r3 := blk_cell rblk 3 (by simp)
                  have rf := fun i => blk_free rblk i
                  simp only [List.getElem_toArray, List.getElem_cons_zero, List.getElem_cons_succ] at r0 r1 r2 r3
                  have RB2 := Lib.hid rblk
                  have HBq := Lib.hid (below_drewN hbn.out qn)
                  have HNO := Lib.hid hno
                  obtain ⟨W2, hW2⟩ : ∃ W2, W1.drewN qn = W2 := ⟨_, rfl⟩
                  have HW2 := Lib.hid hW2
                  rw [hW2] at r0 r1 r2 r3 HBq RB2 ⊢
                  simp only [hW2] at rf
                  clear hno rblk hW2
                  by_cases hlt2 : jj < 6
                  · have hlx : ∀ W, (Instr.index 9 (.string (⟨#[110, 97, 101, 120, 114, 98]⟩ : ByteArray)) (.int .i64 (jj : Int))).run Tryd.prog W = .ok (.int .u8 ((lets.getD jj 0).toNat : Int)) W := fun W => ix_str (B lets) jj hlt2 W
                    have hx0 : ∀ W, (Instr.index 9 (vS x) (.int .i64 0)).run Tryd.prog W = .ok (.int .u8 ((x.getD 0 0).toNat : Int)) W := fun W => ix_str (B x) 0 (by rw [hsB]; omega) W
                    have i6 : (jj : Int) ≤ 5 := by omega
                    have hkl := Lib.hid (kOf_lets jj hlt2)
                    have HS := Lib.hid (show x.getD 0 0 ≠ lets.getD jj 0 → ∀ i, i < jj + 1 → x.getD 0 0 ≠ lets.getD i 0 by
                      intro h i hi
                      by_cases e : i = jj
                      · subst e; exact h
                      · exact HNO.out i (by omega))
                    generalize lets.getD jj 0 = y at *
                    by_cases he : y = x.getD 0 0
                    · have q := nbeq (congrArg UInt8.toNat he)
                      have HE := Lib.hid (HR.out.trans (oE_some (show refE x = some ⟨jj, n, false, 0⟩ by rw [HRG.out, ← he, hkl.out])))
                      clear he HS HRG
                      generalize x.getD 0 0 = c0 at *
                      go_wp2_with fail
                      go_quiet (fail)
                      have s0 : (W2.drewN nq).cell? ⟨w.heap.size, 0, none⟩ = _ := r0
                      have s1 : (W2.drewN nq).cell? ⟨w.heap.size, 1, none⟩ = _ := r1
                      have s2 : (W2.drewN nq).cell? ⟨w.heap.size, 2, none⟩ = _ := r2
                      have s3 : (W2.drewN nq).cell? ⟨w.heap.size, 3, none⟩ = _ := r3
                      have sf : ∀ i, (W2.drewN nq).frozen? ⟨w.heap.size, i, none⟩ = false := fun i => rf i
                      have HBz := Lib.hid (below_drewN HBq.out nq)
                      generalize W2.drewN nq = W3 at *
                      go_wp2_with fail
                      (try simp only [Exit.inBlock, Exit.then])
                      refine bodyPost_ret (v := .tuple #[.agg #[.int .i64 (⟨jj, n, false, 0⟩ : Ev).kind, .int .i64 (⟨jj, n, false, 0⟩ : Ev).th, .bool (⟨jj, n, false, 0⟩ : Ev).rd, .int .i64 (⟨jj, n, false, 0⟩ : Ev).ct], .bool true]) ?_ rfl ⟨?_, ?_⟩
                      · rw [results_cell_tmp rfl]
                        go_simp
                      · rw [HE.out]
                      · repeat' (first | with_reducible exact HBz.out | with_reducible refine bset ?_ (Nat.le_refl _))
                    · have q := nbeq_no (fun e => he (UInt8.toNat_inj.1 e))
                      have HS := Lib.hid (HS.out (fun e => he e.symm))
                      clear he
                      generalize hc0 : x.getD 0 0 = c0 at *
                      go_wp2_with fail
                      go_quiet (fail)
                      go_wp2_with fail
                      go_roundw
                      case rel => exact ⟨jj + 1, by omega, by go_num, HS.out, qn + nq, by rw [← HW2.out, World.drewN_drewN]⟩
                      case measure => simp [intOf]; omega
                  · have i6 : ¬ (jj : Int) ≤ 5 := by omega
                    have HE := Lib.hid (show refE x = none by rw [HRG.out, (kind_no (c := x.getD 0 0) (fun i hi => HNO.out i (by omega))).2])
                    have HZ := Lib.hid (HR.out.trans (oE_none HE.out))
                    clear HRG
                    go_wp2_with fail
                    (try simp only [Exit.inBlock, Exit.then])
                    refine bodyPost_ret (v := .tuple #[.agg #[.int .i64 (⟨0, 0, false, 0⟩ : Ev).kind, .int .i64 (⟨0, 0, false, 0⟩ : Ev).th, .bool (⟨0, 0, false, 0⟩ : Ev).rd, .int .i64 (⟨0, 0, false, 0⟩ : Ev).ct], .bool false]) ?_ rfl ⟨?_, ?_⟩
                    · rw [results_cell_tmp rfl]
                      go_simp
                    · rw [HZ.out]
                    · repeat' (first | with_reducible exact HBq.out | with_reducible refine bset ?_ (Nat.le_refl _))
            · have HE := Lib.hid (show refE x = none by rw [HRF.out, p1])
              rw [p2] at HP
              clear p1 p2
              go_wp2_with fail
              rw [HSl.out]
              refine (HP.out _).mono ?_
              rintro e wx ⟨rfl, hwx⟩
              obtain rfl := hwx.symm
              go_wp2_with fail
              have HZ := Lib.hid (HR.out.trans (oE_none HE.out))
              (try simp only [Exit.inBlock, Exit.then])
              refine bodyPost_ret (v := .tuple #[.agg #[.int .i64 (⟨0, 0, false, 0⟩ : Ev).kind, .int .i64 (⟨0, 0, false, 0⟩ : Ev).th, .bool (⟨0, 0, false, 0⟩ : Ev).rd, .int .i64 (⟨0, 0, false, 0⟩ : Ev).ct], .bool false]) ?_ rfl ⟨?_, ?_⟩
              · rw [results_cell_tmp rfl]
                go_simp
              · rw [HZ.out]
              · repeat' (first | with_reducible exact below_new _ _ | with_reducible refine bset ?_ (Nat.le_refl _))
end Go.Proofs.YtcfdphfochfeoaaDoor.Tr
