/- Merged texts: Na1. -/
import Derived.Test.YtfnmggmgdmokcaaGreatDoorNb5
import Derived.Lib.QuietBelow
set_option linter.unusedVariables false
/- Package named: whether there is a kind, whether a text has capitals alone, the names, the name of a lock. -/
namespace Go.Proofs.YtfnmggmgdmokcaaGreatDoor.Na
open Go.RowKit Go.Sort Go.Proofs.YtfnmggmgdmokcaaGreatDoor.Li Go.Proofs.YtfnmggmgdmokcaaGreatDoor.De

def nmA (j : Nat) : List UInt8 := nmL.getD j []
theorem bok_eq (b : Int) : Bud.right b = bok b := by
  unfold Bud.right Bud.inB bok
  rfl
structure Nk (w : World) : Prop where
  mx : ∃ m : Int, w.cell? ⟨1, 0, none⟩ = some (.int .i64 m)
  nm : ∀ j, j < 5 → w.cell? ⟨0, j, none⟩ = some (vS (nmA j))
  sz : 2 ≤ w.heap.size
theorem Nk.step {w w' : World} (h : Nk w) (b : Below w.heap.size w w') : Nk w' := by
  obtain ⟨m, hm⟩ := h.mx
  have hs := h.sz
  exact ⟨⟨m, (b.cell (p := ⟨1, 0, none⟩) (by show 1 < _; omega)).trans hm⟩, fun j hj => (b.cell (p := ⟨0, j, none⟩) (by show 0 < _; omega)).trans (h.nm j hj), Nat.le_trans hs b.size⟩
theorem kind_any (k : Int) (w : World) : Calls Tryz.prog 16 #[.int .i64 k] w fun e w' => e = .returned (.bool (kok k)) ∧ w' = w := by
  by_cases h1 : 1 ≤ k
  · by_cases h5 : k ≤ 5
    · have HK := Lib.hid (show kok k = true by unfold kok; rw [decide_eq_true h1, decide_eq_true h5]; rfl)
      go_enter Tryz.func16, Tryz.ntmps16
      go_wp2_with fail
      go_ret
      exact ⟨by rw [HK.out]; rfl, rfl⟩
    · have HK := Lib.hid (show kok k = false by unfold kok; rw [decide_eq_false h5, Bool.and_false])
      go_enter Tryz.func16, Tryz.ntmps16
      go_wp2_with fail
      go_ret
      exact ⟨by rw [HK.out]; rfl, rfl⟩
  · have HK := Lib.hid (show kok k = false by unfold kok; rw [decide_eq_false h1, Bool.false_and])
    go_enter Tryz.func16, Tryz.ntmps16
    go_wp2_with fail
    go_ret
    exact ⟨by rw [HK.out]; rfl, rfl⟩
def CpJ (l : List UInt8) (w : World) (a : Act) (W : World) : Prop :=
  a.tmps.size = 22 ∧ a.defers = [] ∧ a.tmps.getD 0 undef = vS l ∧ a.tmps.getD 5 undef = .int .i64 (l.length : Int) ∧
    ∃ j : Nat, a.tmps.getD 6 undef = .int .i64 (j : Int) ∧ j ≤ l.length ∧ (∀ x ∈ l.take j, cap x = true) ∧ W = w
theorem frame22 {a : Act} (h : a.tmps.size = 22) (hd : a.defers = []) : ∃ u : Nat → Value, a = { tmps := #[u 0, u 1, u 2, u 3, u 4, u 5, u 6, u 7, u 8, u 9, u 10, u 11, u 12, u 13, u 14, u 15, u 16, u 17, u 18, u 19, u 20, u 21], defers := [] } ∧ ∀ n, a.tmps.getD n undef = u n := by
  refine ⟨fun n => a.tmps.getD n undef, ?_, fun _ => rfl⟩
  have h1 := arr_lit a.tmps h
  cases a with
  | mk t d =>
    simp only at hd h1
    subst hd
    congr 1
set_option maxRecDepth 100000 in
theorem caps_any (l : List UInt8) (hl : l.length ≤ 4096) (w : World) : Calls Tryz.prog 21 #[vS l] w fun e w' => e = .returned (.bool (caps l)) ∧ w' = w := by
  have hsB := size_B l
  go_enter Tryz.func21, Tryz.ntmps21
  go_wp2_with fail
  refine wp_loop (CpJ l w) (fun a' _ => l.length - (intOf (a'.tmps.getD 6 undef)).toNat) ?_ ?_
  · exact ⟨rfl, rfl, rfl, by show Value.int .i64 ((B l).size : Int) = _; rw [hsB], 0, rfl, Nat.zero_le _, by simp, rfl⟩
  · rintro a' W ⟨hsz, hdf, s0, s5, j, s6, hj, hn, hW⟩
    subst hW
    obtain ⟨u, rfl, hu⟩ := frame22 hsz hdf
    rw [hu] at s0 s5 s6
    simp only [s0, s5, s6]
    clear hsz hdf s0 s5 s6 hu
    have HN := Lib.hid hn
    clear hn
    by_cases hlt : j < l.length
    · have i1 : (j : Int) < (l.length : Int) := by omega
      have hix := ix_str (B l) j (by rw [size_B]; exact hlt)
      rw [L_B] at hix
      have hmem : l.getD j 0 ∈ l := by rw [getD_at hlt]; exact List.getElem_mem hlt
      have HT := Lib.hid (show l.take (j + 1) = l.take j ++ [l.getD j 0] by rw [List.take_succ_eq_append_getElem hlt, getD_at hlt])
      have HNO := Lib.hid (show cap (l.getD j 0) = false → caps l = false by
        intro h
        unfold caps
        rw [Bool.and_eq_false_iff]
        right
        rw [List.all_eq_false]
        exact ⟨_, hmem, by rw [h]; decide⟩)
      have HC := Lib.hid (show cap (l.getD j 0) = (decide (65 ≤ (l.getD j 0).toNat) && decide ((l.getD j 0).toNat ≤ 90)) from rfl)
      clear hmem
      generalize l.getD j 0 = y at *
      by_cases h65 : 65 ≤ y.toNat
      · have i2 : ¬ (y.toNat : Int) < 65 := by omega
        by_cases h90 : y.toNat ≤ 90
        · have i3 : ¬ (90 : Int) < (y.toNat : Int) := by omega
          have HY := Lib.hid (show cap y = true by rw [HC.out, decide_eq_true h65, decide_eq_true h90]; rfl)
          clear h65 h90
          go_wp2_with fail
          go_roundw
          case rel => exact ⟨rfl, rfl, rfl, rfl, j + 1, by go_num, by omega, by
            rw [HT.out]
            intro x hx
            rcases List.mem_append.1 hx with e | e
            · exact HN.out x e
            · rw [List.mem_singleton.1 e]; exact HY.out, rfl⟩
          case measure => simp [intOf]; omega
        · have i3 : (90 : Int) < (y.toNat : Int) := by omega
          have HF := Lib.hid (HNO.out (by rw [HC.out, decide_eq_false h90, Bool.and_false]))
          clear h65 h90
          go_wp2_with fail
          go_ret
          exact ⟨by rw [HF.out]; rfl, by trivial⟩
      · have i2 : (y.toNat : Int) < 65 := by omega
        have HF := Lib.hid (HNO.out (by rw [HC.out, decide_eq_false h65, Bool.false_and]))
        clear h65
        go_wp2_with fail
        go_ret
        exact ⟨by rw [HF.out]; rfl, by trivial⟩
    · have i1 : ¬ (j : Int) < (l.length : Int) := by omega
      have HA := Lib.hid (show caps l = !l.isEmpty by
        have h := HN.out
        rw [List.take_of_length_le (by omega)] at h
        unfold caps
        rw [List.all_eq_true.2 h, Bool.and_true])
      go_wp2_with fail
      go_ret
      exact ⟨by rw [HA.out]; cases l <;> rfl, by trivial⟩
def NmJ (w : World) (a : Act) (W : World) : Prop :=
  a.tmps.size = 14 ∧ a.defers = [] ∧ a.tmps.getD 4 undef = .agg #[vS (nmA 0), vS (nmA 1), vS (nmA 2), vS (nmA 3), vS (nmA 4)] ∧
    ∃ (j : Nat) (v : Value), a.tmps.getD 5 undef = .int .i64 (j : Int) ∧ a.tmps.getD 1 undef = v ∧ j ≤ 5 ∧ W.ownsRow w.heap.size 9 1 v j ((nmL.take j).map vS) ∧ Below w.heap.size w W
theorem frame14 {a : Act} (h : a.tmps.size = 14) (hd : a.defers = []) : ∃ u : Nat → Value, a = { tmps := #[u 0, u 1, u 2, u 3, u 4, u 5, u 6, u 7, u 8, u 9, u 10, u 11, u 12, u 13], defers := [] } ∧ ∀ n, a.tmps.getD n undef = u n := by
  refine ⟨fun n => a.tmps.getD n undef, ?_, fun _ => rfl⟩
  have h1 := arr_lit a.tmps h
  cases a with
  | mk t d =>
    simp only at hd h1
    subst hd
    congr 1
theorem infoS : (Tryz.prog.info? 9).map (fun i => (i.zero, i.size, i.bytes)) = some (some (.string ByteArray.empty), 1, 16) := by kernel_rfl
theorem ixA (j : Nat) (h : j < 5) (W : World) : (Instr.index 49 (.agg #[vS (nmA 0), vS (nmA 1), vS (nmA 2), vS (nmA 3), vS (nmA 4)]) (.int .i64 (j : Int))).run Tryz.prog W = .ok (vS (nmA j)) W := by
  rcases (show j = 0 ∨ j = 1 ∨ j = 2 ∨ j = 3 ∨ j = 4 by omega) with rfl | rfl | rfl | rfl | rfl <;> simp [Instr.index, run_underlying Tryz.underlying49, asIntOf, go_sem]
theorem nm_take {j : Nat} (h : j < 5) : (nmL.take (j + 1)).map vS = (nmL.take j).map vS ++ [vS (nmA j)] := by
  rcases (show j = 0 ∨ j = 1 ∨ j = 2 ∨ j = 3 ∨ j = 4 by omega) with rfl | rfl | rfl | rfl | rfl <;> rfl
def NmP (w : World) (e : Ending) (w' : World) : Prop := ∃ g c, e = .returned (.slice (some ⟨g, 0, none⟩) 5 c) ∧ (∀ j, j < 5 → w'.cell? ⟨g, j, none⟩ = some (vS (nmA j))) ∧ g < w'.heap.size ∧ Below w.heap.size w w'
set_option maxRecDepth 100000 in
theorem names_any (w : World) (hN : Nk w) : Calls Tryz.prog 15 #[] w (NmP w) := by
  have c0 := hN.nm 0 (by omega)
  have c1 := hN.nm 1 (by omega)
  have c2 := hN.nm 2 (by omega)
  have c3 := hN.nm 3 (by omega)
  have c4 := hN.nm 4 (by omega)
  have HIX := Lib.hid (fun j hj W => ixA j hj W)
  go_enter Tryz.func15, Tryz.ntmps15
  go_wp2_with fail
  refine wp_loop (NmJ w) (fun a' _ => 5 - (intOf (a'.tmps.getD 5 undef)).toNat) ?_ ?_
  · exact ⟨rfl, rfl, rfl, 0, _, rfl, rfl, Nat.zero_le _, World.ownsRow_nil _ _ _ _, Below.refl _ _⟩
  · rintro a' W ⟨hsz, hdf, s4, j, v, s5, s1, hj, hown, hb⟩
    obtain ⟨u, rfl, hu⟩ := frame14 hsz hdf
    rw [hu] at s4 s5 s1
    simp only [s4, s5, s1]
    clear hsz hdf s4 s5 s1 hu
    have HO := Lib.hid hown
    have HB := Lib.hid hb
    clear hown hb c0 c1 c2 c3 c4
    by_cases hlt : j < 5
    · have i1 : (j : Int) < 5 := by omega
      have hix := HIX.out j hlt
      have HT := Lib.hid (nm_take hlt)
      have hown1 := HO.out
      have hwq := HB.out.size
      generalize nmA j = y at *
      go_wp2_with (at_builtin; refine wpList_append1 (.tmp 8) (.tmp 10) 46 9 _ 1 16 rfl rfl Tryz.underlying46 infoS rfl (by decide) w.heap.size _ _ _ _ _ _ _ _ hown1 rfl rfl ?cge rfl ?d1e ?d2e ?d3e ?d4e ?cke; case' cke => intro v' w2 hown2 hb2 _)
      case cge => first | rfl | simp
      case d1e => simp [Value.oneCell']
      case d2e => simp only [maxLen]; omega
      case d3e => omega
      case d4e => omega
      go_wp2_with fail
      go_roundw
      case rel => exact ⟨rfl, rfl, rfl, j + 1, v', by go_num, rfl, by omega, by rw [HT.out]; exact hown2, HB.out.trans hb2⟩
      case measure => simp [intOf]; omega
    · obtain rfl : j = 5 := by omega
      have i1 : ¬ ((5 : Nat) : Int) < 5 := by omega
      obtain ⟨g, c, rfl, hg, hc⟩ : ∃ g c, v = .slice (some ⟨g, 0, none⟩) 5 c ∧ g < W.heap.size ∧ ∀ j, j < 5 → W.cell? ⟨g, j, none⟩ = some (vS (nmA j)) := by
        rcases HO.out.2 with ⟨_, h0⟩ | ⟨g, cap, cur, rfl, hgb, hbk, rest⟩
        · cases h0
        · refine ⟨g, cap, rfl, lt_of_blk hbk, fun j hj => ?_⟩
          have := World.ownsRow.cells HO.out (g := g) rfl j (vS (nmA j)) (by rcases (show j = 0 ∨ j = 1 ∨ j = 2 ∨ j = 3 ∨ j = 4 by omega) with rfl | rfl | rfl | rfl | rfl <;> rfl)
          rw [show (⟨g, 0, none⟩ : Addr).add j = ⟨g, j, none⟩ by unfold Addr.add; split <;> simp_all] at this
          exact this
      have HC := Lib.hid hc
      clear hc
      go_wp2_with fail
      go_ret
      exact ⟨g, c, rfl, HC.out, hg, HB.out⟩
theorem text_no {g l : Int} (h : kok g = false ∨ kok l = false) (par b : Int) : textN g l par b = ([], 7) := by
  unfold textN
  rcases h with h | h <;> simp [h]
theorem text_no2 {g l b : Int} (hg : kok g = true) (hl : kok l = true) (h : bok b = false) (par : Int) : textN g l par b = ([], 1) := by
  unfold textN
  simp [hg, hl, h]
theorem text_yes {g l b : Int} (hg : kok g = true) (hl : kok l = true) (h : bok b = true) (par : Int) : textN g l par b = (bodyN g l par b, 0) := by
  unfold textN
  simp [hg, hl, h]
theorem kok_nat {k : Int} (h : kok k = true) : ∃ i : Nat, i < 5 ∧ k = (i : Int) + 1 := by
  rw [kok_iff] at h
  exact ⟨(k - 1).toNat, by omega, by omega⟩
theorem nm_nat (i : Nat) : nm ((i : Int) + 1) = nmA i := by
  unfold nm
  rw [show ((i : Int) + 1 - 1).toNat = i by omega]
  rfl
theorem nm_len {i : Nat} (h : i < 5) : (nmA i).length ≤ 3 := by
  rcases (show i = 0 ∨ i = 1 ∨ i = 2 ∨ i = 3 ∨ i = 4 by omega) with rfl | rfl | rfl | rfl | rfl <;> decide
set_option maxRecDepth 100000 in
set_option maxHeartbeats 4000000 in
theorem ntext_any (g l par b : Int) (hp : -9223372036854775808 ≤ par ∧ par ≤ 9223372036854775807) (w : World) (hN : Nk w) : Calls Tryz.prog 6 #[.agg #[.int .i64 g, .int .i64 l, .int .i64 par, .int .i64 b]] w fun e w' => e = .returned (.tuple #[vS (textN g l par b).1, .int .i64 (textN g l par b).2]) ∧ Below w.heap.size w w' := by
  cases hg : kok g with
  | false =>
    rw [text_no (.inl hg)]
    have hg := Lib.hid (show ∀ W, Calls Tryz.prog 16 #[.int .i64 g] W fun e w' => e = .returned (.bool false) ∧ w' = W from fun W => by have := kind_any g W; rw [hg] at this; exact this)
    go_enter Tryz.func6, Tryz.ntmps6
    go_upto_region 1 with fail
    have hx := blk_new w (.cells #[.int .i64 g, .int .i64 l, .int .i64 par, .int .i64 b] 23)
    have hb := below_new w (.cells #[.int .i64 g, .int .i64 l, .int .i64 par, .int .i64 b] 23)
    generalize w.alloc (.cells #[.int .i64 g, .int .i64 l, .int .i64 par, .int .i64 b] 23) = W1 at *
    have c0 := blk_cell hx 0 (by simp)
    have c1 := blk_cell hx 1 (by simp)
    have c2 := blk_cell hx 2 (by simp)
    have c3 := blk_cell hx 3 (by simp)
    simp at c0 c1 c2 c3
    have HB := Lib.hid hb
    clear hb hx
    go_wp2_with fail
    refine (hg.out _).mono ?_
    rintro e wx ⟨rfl, hwx⟩
    obtain rfl := hwx.symm
    go_wp2_with fail
    go_ret2
    exact ⟨rfl, HB.out⟩
  | true =>
    cases hl : kok l with
    | false =>
      rw [text_no (.inr hl)]
      have hg := Lib.hid (show ∀ W, Calls Tryz.prog 16 #[.int .i64 g] W fun e w' => e = .returned (.bool true) ∧ w' = W from fun W => by have := kind_any g W; rw [hg] at this; exact this)
      have hl := Lib.hid (show ∀ W, Calls Tryz.prog 16 #[.int .i64 l] W fun e w' => e = .returned (.bool false) ∧ w' = W from fun W => by have := kind_any l W; rw [hl] at this; exact this)
      go_enter Tryz.func6, Tryz.ntmps6
      go_upto_region 1 with fail
      have hx := blk_new w (.cells #[.int .i64 g, .int .i64 l, .int .i64 par, .int .i64 b] 23)
      have hb := below_new w (.cells #[.int .i64 g, .int .i64 l, .int .i64 par, .int .i64 b] 23)
      generalize w.alloc (.cells #[.int .i64 g, .int .i64 l, .int .i64 par, .int .i64 b] 23) = W1 at *
      have c0 := blk_cell hx 0 (by simp)
      have c1 := blk_cell hx 1 (by simp)
      have c2 := blk_cell hx 2 (by simp)
      have c3 := blk_cell hx 3 (by simp)
      simp at c0 c1 c2 c3
      have HB := Lib.hid hb
      clear hb hx
      go_wp2_with fail
      refine (hg.out _).mono ?_
      rintro e wx ⟨rfl, hwx⟩
      obtain rfl := hwx.symm
      go_wp2_with fail
      refine (hl.out _).mono ?_
      rintro e wx ⟨rfl, hwx⟩
      obtain rfl := hwx.symm
      go_wp2_with fail
      go_ret2
      exact ⟨rfl, HB.out⟩
    | true =>
      cases hk : bok b with
      | false =>
        rw [text_no2 hg hl hk]
        have HR := Lib.hid (show ∀ W, Calls Tryz.prog 17 #[.int .i64 b] W fun e w' => e = .returned (.bool false) ∧ w' = W from fun W => by have := Bud.right_any b W; rw [bok_eq, hk] at this; exact this)
        have hg := Lib.hid (show ∀ W, Calls Tryz.prog 16 #[.int .i64 g] W fun e w' => e = .returned (.bool true) ∧ w' = W from fun W => by have := kind_any g W; rw [hg] at this; exact this)
        have hl := Lib.hid (show ∀ W, Calls Tryz.prog 16 #[.int .i64 l] W fun e w' => e = .returned (.bool true) ∧ w' = W from fun W => by have := kind_any l W; rw [hl] at this; exact this)
        go_enter Tryz.func6, Tryz.ntmps6
        go_upto_region 1 with fail
        have hx := blk_new w (.cells #[.int .i64 g, .int .i64 l, .int .i64 par, .int .i64 b] 23)
        have hb := below_new w (.cells #[.int .i64 g, .int .i64 l, .int .i64 par, .int .i64 b] 23)
        generalize w.alloc (.cells #[.int .i64 g, .int .i64 l, .int .i64 par, .int .i64 b] 23) = W1 at *
        have c0 := blk_cell hx 0 (by simp)
        have c1 := blk_cell hx 1 (by simp)
        have c2 := blk_cell hx 2 (by simp)
        have c3 := blk_cell hx 3 (by simp)
        simp at c0 c1 c2 c3
        have HB := Lib.hid hb
        clear hb hx
        go_wp2_with fail
        refine (hg.out _).mono ?_
        rintro e wx ⟨rfl, hwx⟩
        obtain rfl := hwx.symm
        go_wp2_with fail
        refine (hl.out _).mono ?_
        rintro e wx ⟨rfl, hwx⟩
        obtain rfl := hwx.symm
        go_wp2_with fail
        refine (HR.out _).mono ?_
        rintro e wx ⟨rfl, hwx⟩
        obtain rfl := hwx.symm
        go_wp2_with fail
        go_ret2
        exact ⟨rfl, HB.out⟩
      | true =>
        rw [text_yes hg hl hk]
        have hb64 : -9223372036854775808 ≤ b ∧ b ≤ 9223372036854775807 := by
          unfold bok at hk
          rw [Bool.and_eq_true, decide_eq_true_iff, decide_eq_true_iff] at hk
          omega
        have HR := Lib.hid (show ∀ W, Calls Tryz.prog 17 #[.int .i64 b] W fun e w' => e = .returned (.bool true) ∧ w' = W from fun W => by have := Bud.right_any b W; rw [bok_eq, hk] at this; exact this)
        obtain ⟨i, hi, rfl⟩ := kok_nat hg
        obtain ⟨j, hj, rfl⟩ := kok_nat hl
        have HE := Lib.hid (show (((((((⟨#[67, 45]⟩ : ByteArray) ++ B (nmA i)) ++ ⟨#[45]⟩) ++ B (nmA j)) ++ ⟨#[47]⟩) ++ B (txt b)) ++ ⟨#[47]⟩) ++ B (txt par) = B (bodyN ((i : Int) + 1) ((j : Int) + 1) par b) by
          show (((((((B [67, 45]) ++ B (nmA i)) ++ B [45]) ++ B (nmA j)) ++ B [47]) ++ B (txt b)) ++ B [47]) ++ B (txt par) = _
          simp only [app_B]
          unfold bodyN headN
          rw [nm_nat, nm_nat]
          simp only [List.append_assoc, List.cons_append, List.nil_append])
        have n1 : (nmA i).length ≤ 3 := nm_len hi
        have n2 : (nmA j).length ≤ 3 := nm_len hj
        have n3 := txt_len hb64
        have n4 := txt_len hp
        have j1 : ¬ 9223372036854775807 < 2 + (nmA i).length := by omega
        have j2 : ¬ 9223372036854775807 < 2 + (nmA i).length + 1 := by omega
        have j3 : ¬ 9223372036854775807 < 2 + (nmA i).length + 1 + (nmA j).length := by omega
        have j4 : ¬ 9223372036854775807 < 2 + (nmA i).length + 1 + (nmA j).length + 1 := by omega
        have j5 : ¬ 9223372036854775807 < 2 + (nmA i).length + 1 + (nmA j).length + 1 + (txt b).length := by omega
        have j6 : ¬ 9223372036854775807 < 2 + (nmA i).length + 1 + (nmA j).length + 1 + (txt b).length + 1 := by omega
        have j7 : ¬ 9223372036854775807 < 2 + (nmA i).length + 1 + (nmA j).length + 1 + (txt b).length + 1 + (txt par).length := by omega
        have HT1 := Lib.hid (fun W => text_any b hb64 W)
        have HT2 := Lib.hid (fun W => text_any par hp W)
        have d0 := hN.nm i hi
        have d1 := hN.nm j hj
        have hsz := hN.sz
        have hg := Lib.hid (show ∀ W, Calls Tryz.prog 16 #[.int .i64 ((i : Int) + 1)] W fun e w' => e = .returned (.bool true) ∧ w' = W from fun W => by have := kind_any ((i : Int) + 1) W; rw [hg] at this; exact this)
        have hl := Lib.hid (show ∀ W, Calls Tryz.prog 16 #[.int .i64 ((j : Int) + 1)] W fun e w' => e = .returned (.bool true) ∧ w' = W from fun W => by have := kind_any ((j : Int) + 1) W; rw [hl] at this; exact this)
        have HN := Lib.hid hN
        have e1 : IntKind.i64.wrap (i : Int) = (i : Int) := IntWalk.i64_in _ (by omega)
        have e2 : IntKind.i64.wrap (j : Int) = (j : Int) := IntWalk.i64_in _ (by omega)
        have i1 : (i : Int) < 5 := by omega
        have i2 : (j : Int) < 5 := by omega
        clear hN hk n1 n2 n3 n4
        generalize nmA i = y1 at *
        generalize nmA j = y2 at *
        generalize txt b = tb at *
        generalize txt par = tp at *
        go_enter Tryz.func6, Tryz.ntmps6
        go_upto_region 1 with fail
        have hx := blk_new w (.cells #[.int .i64 ((i : Int) + 1), .int .i64 ((j : Int) + 1), .int .i64 par, .int .i64 b] 23)
        have hb := below_new w (.cells #[.int .i64 ((i : Int) + 1), .int .i64 ((j : Int) + 1), .int .i64 par, .int .i64 b] 23)
        generalize w.alloc (.cells #[.int .i64 ((i : Int) + 1), .int .i64 ((j : Int) + 1), .int .i64 par, .int .i64 b] 23) = W1 at *
        have c0 := blk_cell hx 0 (by simp)
        have c1 := blk_cell hx 1 (by simp)
        have c2 := blk_cell hx 2 (by simp)
        have c3 := blk_cell hx 3 (by simp)
        simp at c0 c1 c2 c3
        have HB := Lib.hid hb
        have f0 := (hb.cell (p := ⟨0, i, none⟩) (by show 0 < _; omega)).trans d0
        have f1 := (hb.cell (p := ⟨0, j, none⟩) (by show 0 < _; omega)).trans d1
        clear hb hx d0 d1
        go_wp2_with fail
        refine (hg.out _).mono ?_
        rintro e wx ⟨rfl, hwx⟩
        obtain rfl := hwx.symm
        go_wp2_with fail
        refine (hl.out _).mono ?_
        rintro e wx ⟨rfl, hwx⟩
        obtain rfl := hwx.symm
        go_wp2_with fail
        refine (HR.out _).mono ?_
        rintro e wx ⟨rfl, hwx⟩
        obtain rfl := hwx.symm
        go_upto_region 5 with fail
        have k0 := cell_regrown c0
        have k1 := cell_regrown c1
        have k2 := cell_regrown c2
        have k3 := cell_regrown c3
        have k4 := cell_regrown f0
        have k5 := cell_regrown f1
        have CB := Lib.hid (fun d os => Calls.regrown_of (HT1.out (grow (redrawn W1 d) os)))
        have CP := Lib.hid (fun d os => Calls.regrown_of (HT2.out (grow (redrawn W1 d) os)))
        clear c0 c1 c2 c3 f0 f1
        refine wp_region_quiet_below (by kernel_rfl) (by kernel_rfl) ?_
        repeat (any_goals (first | go_big_quiet_step ((go_at_call 18; first | with_reducible exact CB.out _ _ | with_reducible exact CP.out _ _)) | quiet_step ((go_at_call 18; first | with_reducible exact CB.out _ _ | with_reducible exact CP.out _ _))))
        refine wpQuiet_nil ?_
        intro _ hw'
        obtain ⟨⟨dq, osq⟩, hw''⟩ := hw'
        subst hw''
        go_wp2_with fail
        go_ret2
        exact ⟨by show _ = Ending.returned (.tuple #[.string _, _]); rw [← HE.out]; rfl, HB.out.trans ((below_regrown W1 dq osq).mono HB.out.size)⟩
end Go.Proofs.YtfnmggmgdmokcaaGreatDoor.Na

