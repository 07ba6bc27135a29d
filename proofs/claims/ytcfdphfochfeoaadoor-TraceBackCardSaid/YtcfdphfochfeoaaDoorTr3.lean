/- Walks of events: one word, as the program reads it. -/
import Derived.Test.YtcfdphfochfeoaaDoorTr1
import Derived.Laws.ResultCell
namespace Go.Proofs.YtcfdphfochfeoaaDoor.Tr
open Go.RowKit Go.Proofs.YtcfdphfochfeoaaDoor.Li Go.Proofs.YtcfdphfochfeoaaDoor.De Go.Proofs.YtcfdphfochfeoaaDoor.Ara

def oE (w : List UInt8) : Ev × Bool := match refE w with
  | some e => (e, true)
  | none => (⟨0, 0, false, 0⟩, false)
theorem oE_prog (w : List UInt8) : oE w = match progE w with | some e => (e, true) | none => (⟨0, 0, false, 0⟩, false) := by unfold oE; rw [prog_ref]
theorem cut_lib (c : UInt8) (l : List UInt8) : Lib.trimPrefix l [c] = (cutP c l).1 ∧ Lib.hasPrefix l [c] = (cutP c l).2 := by
  unfold Lib.trimPrefix Lib.hasPrefix
  cases l with
  | nil => simp [cutP, List.isPrefixOf]
  | cons x r =>
    by_cases h : x = c
    · subst h; simp [cutP, List.isPrefixOf]
    · have h' : ¬ c = x := fun e => h e.symm
      simp [cutP, List.isPrefixOf, h, h']
theorem cutp_any (c : UInt8) (l : List UInt8) (w : World) : Calls Tryd.prog 116 #[vS l, .string ⟨#[c]⟩] w fun e w' => e = .returned (.tuple #[vS (cutP c l).1, .bool (cutP c l).2]) ∧ w' = w := by
  have := Tryd.strings_CutPrefix (B l) ⟨#[c]⟩ w
  have h1 : Lib.trimPrefix (B l).data.toList (⟨#[c]⟩ : ByteArray).data.toList = (cutP c l).1 := (cut_lib c l).1
  have h2 : Lib.hasPrefix (B l).data.toList (⟨#[c]⟩ : ByteArray).data.toList = (cutP c l).2 := (cut_lib c l).2
  rw [h1, h2] at this
  exact this
theorem cut_len' (c : UInt8) (l : List UInt8) : (cutP c l).1.length ≤ l.length := by
  unfold cutP
  cases l with
  | nil => exact Nat.le_refl _
  | cons x r =>
    simp only
    split <;> simp
theorem bset {w W : World} {B g i : Nat} {u : Value} (h : Below B w W) (hg : B ≤ g) : Below B w (W.setCell ⟨g, i, none⟩ u) := h.setCell (p := ⟨g, i, none⟩) hg u
set_option maxRecDepth 100000 in
set_option maxHeartbeats 8000000 in
theorem one_any (x : List UInt8) (hx : x ≠ []) (hl : x.length ≤ 4000) (w : World) : Calls Tryd.prog 93 #[vS x] w fun e w' => e = .returned (.tuple #[.agg #[.int .i64 (oE x).1.kind, .int .i64 (oE x).1.th, .bool (oE x).1.rd, .int .i64 (oE x).1.ct], .bool (oE x).2]) ∧ Below w.heap.size w w' := by
  cases x with
  | nil => exact absurd rfl hx
  | cons c t =>
    have hsB := size_B (c :: t)
    rw [List.length_cons] at hsB hl
    have hix0 : ∀ W, (Instr.index 9 (vS (c :: t)) (.int .i64 0)).run Tryd.prog W = .ok (.int .u8 (c.toNat : Int)) W := fun W => ix_str (B (c :: t)) 0 (by rw [hsB]; omega) W
    have HK := Lib.hid (kind_any c)
    have HT := Lib.hid (take_any t (by omega))
    have hle := tk_le t (min t.length 20)
    change (take t).2 ≤ _ at hle
    have HS1 := Lib.hid (show (B (c :: t)).extract 1 (t.length + 1) = B t by
      rw [← hsB]
      exact (ext_end (B (c :: t)) 1).trans (by rw [L_B]; rfl))
    have HOE := Lib.hid (show ∀ k, kOf c = some k → ∀ n many, take t = (n, many) → many ≠ 0 → progE (c :: t) = (match cutP 39 (t.drop many) with
      | (rest, rd) => if rest = [] then some ⟨k, n, rd, 0⟩ else
        match cutP 47 rest with
        | (q, is) => match prs q with
          | none => none
          | some m => if is = false ∨ m = 0 then none else some ⟨k, n, rd, m⟩) by
      intro k hk n many ht h0
      rw [progE_cons, hk]
      simp only
      rw [ht]
      simp only
      rw [if_neg h0]
      rfl)
    have HN1 := Lib.hid (show kOf c = none → progE (c :: t) = none by intro h; rw [progE_cons, h])
    have HN2 := Lib.hid (show (take t).2 = 0 → progE (c :: t) = none by
      intro h
      rw [progE_cons]
      cases kOf c with
      | none => rfl
      | some k => simp only; rw [if_pos h])
    obtain ⟨R, hR⟩ : ∃ R, oE (c :: t) = R := ⟨_, rfl⟩
    have HR := Lib.hid (hR.symm.trans (oE_prog (c :: t)))
    rw [hR]
    clear hR
    obtain ⟨n, many, htk⟩ : ∃ n many, take t = (n, many) := ⟨_, _, rfl⟩
    rw [htk] at HT HN2 hle
    simp only at HT HN2 hle
    have hmt : many ≤ t.length := by omega
    have HSM := Lib.hid (show (B (c :: t)).extract (1 + many) (t.length + 1) = B (t.drop many) by
      rw [← hsB]
      exact (ext_end (B (c :: t)) (1 + many)).trans (by rw [L_B, Nat.add_comm]; rfl))
    have j1 : (1 : Int) + (many : Int) ≤ (t.length : Int) + 1 := by omega
    have j2 : (many : Int) ≤ 4000 := by omega
    go_enter Tryd.func93, Tryd.ntmps93
    go_wp2_with fail
    refine (HK.out _).mono ?_
    rintro e w2 ⟨rfl, b2⟩
    have hblk := (b2.block w.heap.size (by simp)).trans (blk_new w (.cells #[.int .i64 0, .int .i64 0, .bool false, .int .i64 0] 105))
    have HB2 := Lib.hid (nx (below_new w _) b2)
    have hg0 : w.heap.size < w2.heap.size := by have := b2.size; simp at this; omega
    have HBLK := Lib.hid hblk
    clear hblk b2
    go_wp2_with fail
    have HBe := Lib.hid (HB2.out.alloc HB2.out.size (.cells #[.int .i64 (kv c), .int .i64 0, .bool false, .int .i64 0] 105))
    have eblk := blk_new w2 (.cells #[.int .i64 (kv c), .int .i64 0, .bool false, .int .i64 0] 105)
    have rblk := blk_alloc HBLK.out (.cells #[.int .i64 (kv c), .int .i64 0, .bool false, .int .i64 0] 105)
    rw [HS1.out]
    obtain ⟨g1, hg1⟩ : ∃ g1, w2.heap.size = g1 := ⟨_, rfl⟩
    obtain ⟨g0, hgg⟩ : ∃ g0, w.heap.size = g0 := ⟨_, rfl⟩
    simp only [hg1, hgg] at eblk rblk hg0 HBe ⊢
    generalize (w2.alloc (.cells #[.int .i64 (kv c), .int .i64 0, .bool false, .int .i64 0] 105)) = W at *
    have e0 := blk_cell eblk 0 (by simp)
    have e1 := blk_cell eblk 1 (by simp)
    have e2 := blk_cell eblk 2 (by simp)
    have e3 := blk_cell eblk 3 (by simp)
    have r0 := blk_cell rblk 0 (by simp)
    have r1 := blk_cell rblk 1 (by simp)
    have r2 := blk_cell rblk 2 (by simp)
    have r3 := blk_cell rblk 3 (by simp)
    have ef := fun i => blk_free eblk i
    have rf := fun i => blk_free rblk i
    simp only [List.getElem_toArray, List.getElem_cons_zero, List.getElem_cons_succ] at e0 e1 e2 e3 r0 r1 r2 r3
    have hne : g0 ≠ g1 := by omega
    have hne2 : g1 ≠ g0 := by omega
    clear eblk rblk
    go_wp2_with fail
    refine (HT.out _).mono ?_
    rintro e wx ⟨rfl, hwx⟩
    obtain rfl := hwx.symm
    cases hk : kOf c with
    | none =>
      have hv : kv c = -1 := by unfold kv; rw [hk]
      rw [hv] at e0
      have HE := Lib.hid (show R = (⟨0, 0, false, 0⟩, false) by rw [HR.out, HN1.out hk])
      clear hv hk
      go_wp2_with fail
      (try simp only [Exit.inBlock, Exit.then])
      refine bodyPost_ret (v := .tuple #[.agg #[.int .i64 (⟨0, 0, false, 0⟩ : Ev).kind, .int .i64 (⟨0, 0, false, 0⟩ : Ev).th, .bool (⟨0, 0, false, 0⟩ : Ev).rd, .int .i64 (⟨0, 0, false, 0⟩ : Ev).ct], .bool false]) ?_ rfl ⟨?_, ?_⟩
      · rw [results_cell_tmp rfl]
        go_simp
      · rw [HE.out]
      · rw [hgg]; repeat' (first | with_reducible exact HBe.out | with_reducible refine bset ?_ (Nat.le_refl _) | with_reducible refine bset ?_ (Nat.le_of_lt hg0))
    | some k =>
      have hv : kv c = (k : Int) := by unfold kv; rw [hk]
      rw [hv] at e0
      have i0 : ¬ (k : Int) < 0 := by omega
      by_cases hm0 : many = 0
      · have HE := Lib.hid (show R = (⟨0, 0, false, 0⟩, false) by rw [HR.out, HN2.out hm0])
        subst hm0
        clear hv hk
        go_wp2_with fail
        (try simp only [Exit.inBlock, Exit.then])
        refine bodyPost_ret (v := .tuple #[.agg #[.int .i64 (⟨0, 0, false, 0⟩ : Ev).kind, .int .i64 (⟨0, 0, false, 0⟩ : Ev).th, .bool (⟨0, 0, false, 0⟩ : Ev).rd, .int .i64 (⟨0, 0, false, 0⟩ : Ev).ct], .bool false]) ?_ rfl ⟨?_, ?_⟩
        · rw [results_cell_tmp rfl]
          go_simp
        · rw [HE.out]
        · rw [hgg]; repeat' (first | with_reducible exact HBe.out | with_reducible refine bset ?_ (Nat.le_refl _) | with_reducible refine bset ?_ (Nat.le_of_lt hg0))
      · have qm : ((many : Int) == 0) = false := ibeq_no (by omega)
        have HP := Lib.hid (HOE.out k hk n many htk hm0)
        have HC1 := Lib.hid (cutp_any 39 (t.drop many))
        have hl1 := cut_len' 39 (t.drop many)
        rw [List.length_drop] at hl1
        clear hv hk HN1 HN2 HOE
        generalize cutP 39 (t.drop many) = p1 at *
        obtain ⟨rest, rd⟩ := p1
        simp only at HC1 hl1
        have HC2 := Lib.hid (cutp_any 47 rest)
        have hl2 := cut_len' 47 rest
        go_wp2_with fail
        rw [HSM.out]
        refine (HC1.out _).mono ?_
        rintro e wx ⟨rfl, hwx⟩
        obtain rfl := hwx.symm
        cases hre : rest with
        | nil =>
          subst hre
          have HE := Lib.hid (show R = (⟨k, n, rd, 0⟩, true) by rw [HR.out, HP.out]; simp)
          go_wp2_with fail
          (try simp only [Exit.inBlock, Exit.then])
          refine bodyPost_ret (v := .tuple #[.agg #[.int .i64 (⟨k, n, rd, 0⟩ : Ev).kind, .int .i64 (⟨k, n, rd, 0⟩ : Ev).th, .bool (⟨k, n, rd, 0⟩ : Ev).rd, .int .i64 (⟨k, n, rd, 0⟩ : Ev).ct], .bool true]) ?_ rfl ⟨?_, ?_⟩
          · rw [results_cell_tmp rfl]
            go_simp
          · rw [HE.out]
          · rw [hgg]; repeat' (first | with_reducible exact HBe.out | with_reducible refine bset ?_ (Nat.le_refl _) | with_reducible refine bset ?_ (Nat.le_of_lt hg0))
        | cons y ys =>
          rw [← hre]
          have hie : rest.isEmpty = false := by rw [hre]; rfl
          have hrne : rest ≠ [] := by rw [hre]; simp
          have HP2 := Lib.hid (show progE (c :: t) = (match cutP 47 rest with
            | (q, is) => match prs q with
              | none => none
              | some m => if is = false ∨ m = 0 then none else some ⟨k, n, rd, m⟩) by rw [HP.out]; simp only; rw [if_neg hrne])
          clear hre hrne HP HC1
          generalize cutP 47 rest = p2 at *
          obtain ⟨q, is⟩ := p2
          simp only at HC2 hl2
          have HPr := Lib.hid (parse_any q (by omega))
          rcases pr_ok q with ⟨m, h1, h2⟩ | ⟨h1, h2⟩
          · rw [h2] at HPr
            cases is with
            | false =>
              have HE := Lib.hid (show R = (⟨0, 0, false, 0⟩, false) by rw [HR.out, HP2.out]; simp [h1])
              clear h1 h2
              go_wp2_with fail
              refine (HC2.out _).mono ?_
              rintro e wx ⟨rfl, hwx⟩
              obtain rfl := hwx.symm
              go_wp2_with fail
              refine (HPr.out _).mono ?_
              rintro e wx ⟨rfl, hwx⟩
              obtain rfl := hwx.symm
              go_wp2_with fail
              (try simp only [Exit.inBlock, Exit.then])
              refine bodyPost_ret (v := .tuple #[.agg #[.int .i64 (⟨0, 0, false, 0⟩ : Ev).kind, .int .i64 (⟨0, 0, false, 0⟩ : Ev).th, .bool (⟨0, 0, false, 0⟩ : Ev).rd, .int .i64 (⟨0, 0, false, 0⟩ : Ev).ct], .bool false]) ?_ rfl ⟨?_, ?_⟩
              · rw [results_cell_tmp rfl]
                go_simp
              · rw [HE.out]
              · rw [hgg]; repeat' (first | with_reducible exact HBe.out | with_reducible refine bset ?_ (Nat.le_refl _) | with_reducible refine bset ?_ (Nat.le_of_lt hg0))
            | true =>
              by_cases hm : m = 0
              · have HE := Lib.hid (show R = (⟨0, 0, false, 0⟩, false) by rw [HR.out, HP2.out]; simp [h1, hm])
                subst hm
                clear h1 h2
                go_wp2_with fail
                refine (HC2.out _).mono ?_
                rintro e wx ⟨rfl, hwx⟩
                obtain rfl := hwx.symm
                go_wp2_with fail
                refine (HPr.out _).mono ?_
                rintro e wx ⟨rfl, hwx⟩
                obtain rfl := hwx.symm
                go_wp2_with fail
                (try simp only [Exit.inBlock, Exit.then])
                refine bodyPost_ret (v := .tuple #[.agg #[.int .i64 (⟨0, 0, false, 0⟩ : Ev).kind, .int .i64 (⟨0, 0, false, 0⟩ : Ev).th, .bool (⟨0, 0, false, 0⟩ : Ev).rd, .int .i64 (⟨0, 0, false, 0⟩ : Ev).ct], .bool false]) ?_ rfl ⟨?_, ?_⟩
                · rw [results_cell_tmp rfl]
                  go_simp
                · rw [HE.out]
                · rw [hgg]; repeat' (first | with_reducible exact HBe.out | with_reducible refine bset ?_ (Nat.le_refl _) | with_reducible refine bset ?_ (Nat.le_of_lt hg0))
              · have HE := Lib.hid (show R = (⟨k, n, rd, m⟩, true) by rw [HR.out, HP2.out]; simp [h1, hm])
                have qq := ibeq_no hm
                clear h1 h2 hm
                go_wp2_with fail
                refine (HC2.out _).mono ?_
                rintro e wx ⟨rfl, hwx⟩
                obtain rfl := hwx.symm
                go_wp2_with fail
                refine (HPr.out _).mono ?_
                rintro e wx ⟨rfl, hwx⟩
                obtain rfl := hwx.symm
                go_wp2_with fail
                (try simp only [Exit.inBlock, Exit.then])
                refine bodyPost_ret (v := .tuple #[.agg #[.int .i64 (⟨k, n, rd, m⟩ : Ev).kind, .int .i64 (⟨k, n, rd, m⟩ : Ev).th, .bool (⟨k, n, rd, m⟩ : Ev).rd, .int .i64 (⟨k, n, rd, m⟩ : Ev).ct], .bool true]) ?_ rfl ⟨?_, ?_⟩
                · rw [results_cell_tmp rfl]
                  go_simp
                · rw [HE.out]
                · rw [hgg]; repeat' (first | with_reducible exact HBe.out | with_reducible refine bset ?_ (Nat.le_refl _) | with_reducible refine bset ?_ (Nat.le_of_lt hg0))
          · rw [h2] at HPr
            have HE := Lib.hid (show R = (⟨0, 0, false, 0⟩, false) by rw [HR.out, HP2.out]; simp [h1])
            clear h1 h2
            cases is with
            | false =>
              go_wp2_with fail
              refine (HC2.out _).mono ?_
              rintro e wx ⟨rfl, hwx⟩
              obtain rfl := hwx.symm
              go_wp2_with fail
              refine (HPr.out _).mono ?_
              rintro e wx ⟨rfl, hwx⟩
              obtain rfl := hwx.symm
              go_wp2_with fail
              (try simp only [Exit.inBlock, Exit.then])
              refine bodyPost_ret (v := .tuple #[.agg #[.int .i64 (⟨0, 0, false, 0⟩ : Ev).kind, .int .i64 (⟨0, 0, false, 0⟩ : Ev).th, .bool (⟨0, 0, false, 0⟩ : Ev).rd, .int .i64 (⟨0, 0, false, 0⟩ : Ev).ct], .bool false]) ?_ rfl ⟨?_, ?_⟩
              · rw [results_cell_tmp rfl]
                go_simp
              · rw [HE.out]
              · rw [hgg]; repeat' (first | with_reducible exact HBe.out | with_reducible refine bset ?_ (Nat.le_refl _) | with_reducible refine bset ?_ (Nat.le_of_lt hg0))
            | true =>
              go_wp2_with fail
              refine (HC2.out _).mono ?_
              rintro e wx ⟨rfl, hwx⟩
              obtain rfl := hwx.symm
              go_wp2_with fail
              refine (HPr.out _).mono ?_
              rintro e wx ⟨rfl, hwx⟩
              obtain rfl := hwx.symm
              go_wp2_with fail
              (try simp only [Exit.inBlock, Exit.then])
              refine bodyPost_ret (v := .tuple #[.agg #[.int .i64 (⟨0, 0, false, 0⟩ : Ev).kind, .int .i64 (⟨0, 0, false, 0⟩ : Ev).th, .bool (⟨0, 0, false, 0⟩ : Ev).rd, .int .i64 (⟨0, 0, false, 0⟩ : Ev).ct], .bool false]) ?_ rfl ⟨?_, ?_⟩
              · rw [results_cell_tmp rfl]
                go_simp
              · rw [HE.out]
              · rw [hgg]; repeat' (first | with_reducible exact HBe.out | with_reducible refine bset ?_ (Nat.le_refl _) | with_reducible refine bset ?_ (Nat.le_of_lt hg0))
end Go.Proofs.YtcfdphfochfeoaaDoor.Tr
