/- Walks of events: compared; left out; what a letter says. -/
import Derived.Test.YtcfdphfochfeoaaDoorPi7
import Derived.Test.YtcfdphfochfeoaaDoorTrQ
namespace Go.Proofs.YtcfdphfochfeoaaDoor.Tr
open Go.RowKit Go.Proofs.YtcfdphfochfeoaaDoor.Li Go.Proofs.YtcfdphfochfeoaaDoor.De Go.Proofs.YtcfdphfochfeoaaDoor.Ara
open Go.Proofs.YtcfdphfochfeoaaDoor.Pi (iter_pos iter_below add_any size_app joins_any wp_append1 append1_at own_at cell_of_blk allW_len words_wlen lines_llen flat_drop append_rows)

def kv (c : UInt8) : Int := match kOf c with
  | some k => (k : Int)
  | none => -1
theorem kind_hit {j : Nat} (h : j < 6) {c : UInt8} (hc : lets.getD j 0 = c) : kv c = (j : Int) := by
  subst hc
  unfold kv
  rw [kOf_lets j h]
theorem kind_no {c : UInt8} (h : ∀ i, i < 6 → c ≠ lets.getD i 0) : kv c = -1 ∧ kOf c = none := by
  have : kOf c = none := by
    unfold kOf
    rw [if_neg (show c ≠ 110 from h 0 (by omega)), if_neg (show c ≠ 97 from h 1 (by omega)), if_neg (show c ≠ 101 from h 2 (by omega)), if_neg (show c ≠ 120 from h 3 (by omega)), if_neg (show c ≠ 114 from h 4 (by omega)), if_neg (show c ≠ 98 from h 5 (by omega))]
  unfold kv
  rw [this]
  exact ⟨rfl, rfl⟩
theorem lets_at : ∀ (j : Nat) (h : j < 6), ((⟨#[110, 97, 101, 120, 114, 98]⟩ : ByteArray))[j]'h = lets.getD j 0
  | 0, _ => rfl
  | 1, _ => rfl
  | 2, _ => rfl
  | 3, _ => rfl
  | 4, _ => rfl
  | 5, _ => rfl
  | n + 6, h => by omega
theorem lets_low : ∀ j, j < 6 → (lets.getD j 0).toNat < 128 := by decide
set_option maxRecDepth 100000 in
theorem kind_any (c : UInt8) (w : World) : Calls Tryd.prog 115 #[.int .u8 (c.toNat : Int)] w fun e w' => e = .returned (.int .i64 (kv c)) ∧ Below w.heap.size w w' := by
  have hc := c.toNat_lt
  go_enter Tryd.func115, Tryd.ntmps115
  go_wp2_with fail
  go_loopw [3] (fun _ wr => ∃ j : Nat, j ≤ 6 ∧ wr = w.iter (⟨#[110, 97, 101, 120, 114, 98]⟩ : ByteArray) j ∧ (∀ i, i < j → c ≠ lets.getD i 0)) (fun _ wr => 6 - wr.iterPos w.heap.size)
  case atStart => exact ⟨0, by omega, rfl, fun i h => by omega⟩
  case round =>
    obtain ⟨j, hj, hwr, hno⟩ := hrel
    subst hwr
    have HN := Lib.hid hno
    clear hno
    by_cases hlt : j < 6
    · have hnx : ∀ ty, (Instr.next (.pointer (some ⟨w.heap.size, 0, none⟩)) true ty).run Tryd.prog (w.iter (⟨#[110, 97, 101, 120, 114, 98]⟩ : ByteArray) j) = .ok (.tuple #[.bool true, .int .i64 (j : Int), .int .i32 ((lets.getD j 0).toNat : Int)]) (w.iter (⟨#[110, 97, 101, 120, 114, 98]⟩ : ByteArray) (j + 1)) := fun ty => by
        have := run_next_ascii (P := Tryd.prog) w (⟨#[110, 97, 101, 120, 114, 98]⟩ : ByteArray) j ty hlt (by rw [lets_at j hlt]; exact lets_low j hlt)
        rw [lets_at j hlt] at this
        exact this
      have HH := Lib.hid (fun h => kind_hit hlt (c := c) h)
      have hlow := lets_low j hlt
      have HS := Lib.hid (show c ≠ lets.getD j 0 → ∀ i, i < j + 1 → c ≠ lets.getD i 0 by
        intro h i hi
        by_cases e : i = j
        · subst e; exact h
        · exact HN.out i (by omega))
      generalize lets.getD j 0 = y at *
      by_cases he : y = c
      · have q := nbeq (congrArg UInt8.toNat he)
        have h1 := Lib.hid (HH.out he)
        clear he
        go_wp2_with fail
        go_ret
        exact ⟨by rw [h1.out]; rfl, iter_below _ _ _⟩
      · have q := nbeq_no (fun e => he (UInt8.toNat_inj.1 e))
        have HS := Lib.hid (HS.out (fun e => he e.symm))
        clear he
        go_wp2_with fail
        go_roundw
        case rel => exact ⟨j + 1, by omega, rfl, HS.out⟩
        case measure => rw [iter_pos, iter_pos]; omega
    · have hnx : ∀ ty, (Instr.next (.pointer (some ⟨w.heap.size, 0, none⟩)) true ty).run Tryd.prog (w.iter (⟨#[110, 97, 101, 120, 114, 98]⟩ : ByteArray) j) = .ok (.tuple #[.bool false]) (w.iter (⟨#[110, 97, 101, 120, 114, 98]⟩ : ByteArray) j) := fun ty => run_next_end (P := Tryd.prog) w (⟨#[110, 97, 101, 120, 114, 98]⟩ : ByteArray) j ty (show ¬ j < 6 from hlt)
      have h1 := Lib.hid (kind_no (c := c) (fun i hi => HN.out i (by omega))).1
      go_wp2_with fail
      go_ret
      exact ⟨by rw [h1.out]; rfl, iter_below _ _ _⟩

/-! events in memory -/
def dE (e : Ev) : List Value := [.int .i64 e.kind, .int .i64 e.th, .bool e.rd, .int .i64 e.ct]
theorem infoE : (Tryd.prog.info? 105).map (fun i => (i.zero, i.size, i.bytes)) = some (some (.agg #[.int .i64 0, .int .i64 0, .bool false, .int .i64 0]), 4, 32) := by kernel_rfl
theorem sl_ev {w : World} {Bd : Nat} {A : Option Addr} {ps : List Ev} (h : Sl w Bd A (ps.flatMap dE)) {k : Nat} (hk : k < ps.length) : ∃ b off, A = some ⟨b, off, none⟩ ∧ b < Bd ∧ ∀ j (h : j < ps.length), w.cell? ⟨b, off + j * 4, none⟩ = some (.int .i64 ps[j].kind) ∧ w.cell? ⟨b, off + j * 4 + 1, none⟩ = some (.int .i64 ps[j].th) ∧ w.cell? ⟨b, off + j * 4 + 2, none⟩ = some (.bool ps[j].rd) ∧ w.cell? ⟨b, off + j * 4 + 3, none⟩ = some (.int .i64 ps[j].ct) := by
  obtain ⟨b, off, rfl, hb, hc⟩ := Sl_at (dec := dE) (k := 4) (fun _ => rfl) (by omega) h (by omega)
  refine ⟨b, off, rfl, hb, fun j hj => ?_⟩
  have h0 := hc j hj 0 (by omega)
  have h1 := hc j hj 1 (by omega)
  have h2 := hc j hj 2 (by omega)
  have h3 := hc j hj 3 (by omega)
  simp only [dE, List.getElem?_cons_zero, List.getElem?_cons_succ, Nat.add_zero, ← Nat.add_assoc] at h0 h1 h2 h3
  exact ⟨h0, h1, h2, h3⟩
set_option maxHeartbeats 8000000 in
theorem neE (a b d : Int) (c : Bool) (a' b' d' : Int) (c' : Bool) (W : World) : (binOp .neq 105 (.agg #[.int .i64 a, .int .i64 b, .bool c, .int .i64 d]) (.agg #[.int .i64 a', .int .i64 b', .bool c', .int .i64 d'])).run Tryd.prog W = .ok (.bool (!(a == a' && (b == b' && (c == c' && d == d'))))) W := by
  have hp : Tryd.prog.stoodInHeld 105 = false := by kernel_rfl
  have key : ∀ n, (Op.equalIn (n + 1 + 1) 105 (.agg #[.int .i64 a, .int .i64 b, .bool c, .int .i64 d]) (.agg #[.int .i64 a', .int .i64 b', .bool c', .int .i64 d'])).run Tryd.prog W = .ok (a == a' && (b == b' && (c == c' && d == d'))) W := by
    intro n
    simp only [Op.equalIn, Sem.run_bind, run_underlying Tryd.underlying105, Result.andThen_ok, run_program, hp, Bool.false_eq_true, if_false]
    rw [← Array.forIn_toList]
    simp [go_sem, Op.equalIn, Tryd.underlying3, Tryd.underlying4]
    by_cases h : a = a' <;> by_cases k : b = b' <;> by_cases l : c = c' <;> by_cases m : d = d' <;> simp [h, k, l, m, go_sem, Op.equalIn, Tryd.underlying3, Tryd.underlying4]
  have k := key 9998
  simp only [binOp]
  simp [Op.equal, Op.maxDepth, k]
theorem neGE (x y : Operand) (xs ys : Array Value) (W : World) : (eqGuard .neq 105 x y (.agg xs) (.agg ys)).run Tryd.prog W = .ok () W := by
  have hm : Tryd.prog.eqGuardType Tryd.prog.depth 105 = false := by kernel_rfl
  simp [eqGuard, run_program, hm]
set_option maxHeartbeats 4000000 in
theorem esame_any (l k : List Ev) (A C : Option Addr) (c1 c2 : Nat) (w : World) (hm : l.length ≤ 4096) (hm2 : k.length ≤ 4096)
    (hs : Sl w w.heap.size A (l.flatMap dE)) (ht : Sl w w.heap.size C (k.flatMap dE)) :
    Calls Tryd.prog 56 #[.slice A l.length c1, .slice C k.length c2] w fun e w' => e = .returned (.bool (decide (l = k))) ∧ Below w.heap.size w w' := by
  by_cases hl : l.length = k.length
  · have hlb := nbeq hl
    have hlb2 := nbne_no hl
    have HL := Lib.hid hl
    clear hl
    go_enter Tryd.func56, Tryd.ntmps56
    go_wp2_with fail
    go_loopw [5] (fun i wr => ∃ j : Nat, j ≤ l.length ∧ i = .int .i64 j ∧ l.take j = k.take j ∧ Below w.heap.size w wr) (fun i _ => l.length - (intOf i).toNat)
    case atStart => exact ⟨0, by omega, rfl, rfl, Below.refl _ _⟩
    case round =>
      obtain ⟨j, hj, rfl, hjt, hb⟩ := hrel
      have HJ := Lib.hid hjt
      clear hjt
      by_cases hlt : j < l.length
      · have hlt2 : j < k.length := by have := HL.out; omega
        obtain ⟨b, off, rfl, hbb, hcell⟩ := sl_ev (hs.below hb) hlt
        obtain ⟨b', off', rfl, hbb', hcell'⟩ := sl_ev (ht.below hb) hlt2
        obtain ⟨h0, h1, h2, h3⟩ := hcell j hlt
        obtain ⟨g0, g1, g2, g3⟩ := hcell' j hlt2
        clear hcell hcell'
        have i1 : (j : Int) < (k.length : Int) := by omega
        have i0 : (j : Int) < (l.length : Int) := by omega
        have hnx := Lib.hid (show l[j] = k[j] → l.take (j + 1) = k.take (j + 1) by
          intro h
          rw [List.take_succ_eq_append_getElem hlt, List.take_succ_eq_append_getElem hlt2, HJ.out, h])
        have hno := Lib.hid (show ¬ l[j] = k[j] → decide (l = k) = false by
          intro h
          rw [decide_eq_false_iff_not]
          rintro rfl
          exact h rfl)
        generalize l[j] = x at *
        generalize k[j] = y at *
        obtain ⟨xa, xb, xc, xd⟩ := x
        obtain ⟨ya, yb, yc, yd⟩ := y
        simp only at h0 h1 h2 h3 g0 g1 g2 g3
        have HB := Lib.hid hb
        by_cases hn : xa = ya ∧ xb = yb ∧ xc = yc ∧ xd = yd
        · have q : (xa == ya && (xb == yb && (xc == yc && xd == yd))) = true := by simp [hn]
          have HN := Lib.hid (hnx.out (by rw [hn.1, hn.2.1, hn.2.2.1, hn.2.2.2]))
          have hne : ∀ W, (binOp .neq 105 (.agg #[.int .i64 xa, .int .i64 xb, .bool xc, .int .i64 xd]) (.agg #[.int .i64 ya, .int .i64 yb, .bool yc, .int .i64 yd])).run Tryd.prog W = .ok (.bool false) W := fun W => by rw [neE, q]; rfl
          have hng := neGE
          clear hn q hb
          go_wp2_with fail
          go_quiet (fail)
          go_wp2
          go_roundw
          case rel => exact ⟨j + 1, by omega, by go_num, HN.out, below_drewN HB.out _⟩
          case measure => simp [intOf]; omega
        · have q : (xa == ya && (xb == yb && (xc == yc && xd == yd))) = false := by
            cases hq : (xa == ya && (xb == yb && (xc == yc && xd == yd))) with
            | false => rfl
            | true =>
              simp only [Bool.and_eq_true, beq_iff_eq] at hq
              exact absurd hq hn
          have HN := Lib.hid (hno.out (by intro e; injection e with e1 e2 e3 e4; exact hn ⟨e1, e2, e3, e4⟩))
          have hne : ∀ W, (binOp .neq 105 (.agg #[.int .i64 xa, .int .i64 xb, .bool xc, .int .i64 xd]) (.agg #[.int .i64 ya, .int .i64 yb, .bool yc, .int .i64 yd])).run Tryd.prog W = .ok (.bool true) W := fun W => by rw [neE, q]; rfl
          have hng := neGE
          clear hn q hb
          go_wp2_with fail
          go_quiet (fail)
          go_wp2
          go_ret
          exact ⟨by rw [HN.out]; rfl, below_drewN HB.out _⟩
      · have he := Lib.hid (show decide (l = k) = true by
          rw [decide_eq_true_iff]
          have := HJ.out
          rwa [List.take_of_length_le (by omega), List.take_of_length_le (by have := HL.out; omega)] at this)
        go_wp2
        go_ret
        exact ⟨by rw [he.out]; rfl, hb⟩
  · have hlb2 := nbne hl
    have hn := Lib.hid (show decide (l = k) = false by simp; rintro rfl; exact hl rfl)
    clear hl
    go_enter Tryd.func56, Tryd.ntmps56
    go_wp2
    go_ret
    exact ⟨by rw [hn.out]; rfl, Below.refl _ _⟩
set_option maxHeartbeats 4000000 in
theorem equal_any (l k : List Ev) (A C : Option Addr) (c1 c2 : Nat) (w : World) (hm : l.length ≤ 4096) (hm2 : k.length ≤ 4096)
    (hs : Sl w w.heap.size A (l.flatMap dE)) (ht : Sl w w.heap.size C (k.flatMap dE)) :
    Calls Tryd.prog 96 #[.slice A l.length c1, .slice C k.length c2] w fun e w' => e = .returned (.bool (decide (l = k))) ∧ Below w.heap.size w w' := by
  by_cases hl : l.length = k.length
  · have hlb := nbeq hl
    have hlb2 := nbne_no hl
    have HL := Lib.hid hl
    clear hl
    go_enter Tryd.func96, Tryd.ntmps96
    go_wp2_with fail
    go_loopw [13] (fun i wr => ∃ j : Nat, j ≤ l.length ∧ i = .int .i64 j ∧ l.take j = k.take j ∧ Below w.heap.size w wr) (fun i _ => l.length - (intOf i).toNat)
    case atStart => exact ⟨0, by omega, rfl, rfl, Below.refl _ _⟩
    case round =>
      obtain ⟨j, hj, rfl, hjt, hb⟩ := hrel
      have HJ := Lib.hid hjt
      clear hjt
      by_cases hlt : j < l.length
      · have hlt2 : j < k.length := by have := HL.out; omega
        obtain ⟨b, off, rfl, hbb, hcell⟩ := sl_ev (hs.below hb) hlt
        obtain ⟨b', off', rfl, hbb', hcell'⟩ := sl_ev (ht.below hb) hlt2
        obtain ⟨h0, h1, h2, h3⟩ := hcell j hlt
        obtain ⟨g0, g1, g2, g3⟩ := hcell' j hlt2
        clear hcell hcell'
        have i1 : (j : Int) < (k.length : Int) := by omega
        have i0 : (j : Int) < (l.length : Int) := by omega
        have hnx := Lib.hid (show l[j] = k[j] → l.take (j + 1) = k.take (j + 1) by
          intro h
          rw [List.take_succ_eq_append_getElem hlt, List.take_succ_eq_append_getElem hlt2, HJ.out, h])
        have hno := Lib.hid (show ¬ l[j] = k[j] → decide (l = k) = false by
          intro h
          rw [decide_eq_false_iff_not]
          rintro rfl
          exact h rfl)
        generalize l[j] = x at *
        generalize k[j] = y at *
        obtain ⟨xa, xb, xc, xd⟩ := x
        obtain ⟨ya, yb, yc, yd⟩ := y
        simp only at h0 h1 h2 h3 g0 g1 g2 g3
        have HB := Lib.hid hb
        by_cases hn : xa = ya ∧ xb = yb ∧ xc = yc ∧ xd = yd
        · have q : (xa == ya && (xb == yb && (xc == yc && xd == yd))) = true := by simp [hn]
          have HN := Lib.hid (hnx.out (by rw [hn.1, hn.2.1, hn.2.2.1, hn.2.2.2]))
          have hne : ∀ W, (binOp .neq 105 (.agg #[.int .i64 xa, .int .i64 xb, .bool xc, .int .i64 xd]) (.agg #[.int .i64 ya, .int .i64 yb, .bool yc, .int .i64 yd])).run Tryd.prog W = .ok (.bool false) W := fun W => by rw [neE, q]; rfl
          have hng := neGE
          clear hn q hb
          go_wp2_with fail
          go_quiet (fail)
          go_wp2
          go_roundw
          case rel => exact ⟨j + 1, by omega, by go_num, HN.out, below_drewN HB.out _⟩
          case measure => simp [intOf]; omega
        · have q : (xa == ya && (xb == yb && (xc == yc && xd == yd))) = false := by
            cases hq : (xa == ya && (xb == yb && (xc == yc && xd == yd))) with
            | false => rfl
            | true =>
              simp only [Bool.and_eq_true, beq_iff_eq] at hq
              exact absurd hq hn
          have HN := Lib.hid (hno.out (by intro e; injection e with e1 e2 e3 e4; exact hn ⟨e1, e2, e3, e4⟩))
          have hne : ∀ W, (binOp .neq 105 (.agg #[.int .i64 xa, .int .i64 xb, .bool xc, .int .i64 xd]) (.agg #[.int .i64 ya, .int .i64 yb, .bool yc, .int .i64 yd])).run Tryd.prog W = .ok (.bool true) W := fun W => by rw [neE, q]; rfl
          have hng := neGE
          clear hn q hb
          go_wp2_with fail
          go_quiet (fail)
          go_wp2
          go_ret
          exact ⟨by rw [HN.out]; rfl, below_drewN HB.out _⟩
      · have he := Lib.hid (show decide (l = k) = true by
          rw [decide_eq_true_iff]
          have := HJ.out
          rwa [List.take_of_length_le (by omega), List.take_of_length_le (by have := HL.out; omega)] at this)
        go_wp2
        go_ret
        exact ⟨by rw [he.out]; rfl, hb⟩
  · have hlb2 := nbne hl
    have hn := Lib.hid (show decide (l = k) = false by simp; rintro rfl; exact hl rfl)
    clear hl
    go_enter Tryd.func96, Tryd.ntmps96
    go_wp2
    go_ret
    exact ⟨by rw [hn.out]; rfl, Below.refl _ _⟩
theorem same_any (l k : List Ev) (A C : Option Addr) (c1 c2 : Nat) (w : World) (hm : l.length ≤ 4096) (hm2 : k.length ≤ 4096) (hs : Sl w w.heap.size A (l.flatMap dE)) (ht : Sl w w.heap.size C (k.flatMap dE)) :
    Calls Tryd.prog 60 #[.slice A l.length c1, .slice C k.length c2] w fun e w' => e = .returned (.bool (decide (l = k))) ∧ Below w.heap.size w w' := by
  have h := Lib.hid (equal_any l k A C c1 c2 w hm hm2 hs ht)
  go_enter Tryd.func60, Tryd.ntmps60
  go_wp2_with fail
  refine h.out.mono ?_
  rintro e w1 ⟨rfl, b1⟩
  have B1 := Lib.hid b1
  clear b1
  go_wp2_with fail
  go_ret
  exact ⟨rfl, B1.out⟩
theorem esame_tt (l : List Ev) (A C : Option Addr) (c1 c2 : Nat) (w : World) (hm : l.length ≤ 4096) (hs : Sl w w.heap.size A (l.flatMap dE)) (ht : Sl w w.heap.size C (l.flatMap dE)) :
    Calls Tryd.prog 56 #[.slice A l.length c1, .slice C l.length c2] w fun e w' => e = .returned (.bool true) ∧ Below w.heap.size w w' := by
  have := esame_any l l A C c1 c2 w hm hm hs ht
  rw [decide_eq_true rfl] at this
  exact this

/-! left out -/
def wo (k : Int) (l : List Ev) : List Ev := l.filter fun e => e.kind != k
theorem wo_snoc (k : Int) (l : List Ev) (e : Ev) : wo k (l ++ [e]) = if e.kind = k then wo k l else wo k l ++ [e] := by
  unfold wo
  rw [List.filter_append]
  by_cases h : e.kind = k
  · simp [h]
  · simp [h]
theorem wo_len (k : Int) (l : List Ev) : (wo k l).length ≤ l.length := List.length_filter_le _ _
theorem frame24 {a : Act} (h : a.tmps.size = 24) (hd : a.defers = []) : ∃ u : Nat → Value, a = { tmps := #[u 0, u 1, u 2, u 3, u 4, u 5, u 6, u 7, u 8, u 9, u 10, u 11, u 12, u 13, u 14, u 15, u 16, u 17, u 18, u 19, u 20, u 21, u 22, u 23], defers := [] } ∧ ∀ n, a.tmps.getD n undef = u n := by
  refine ⟨fun n => a.tmps.getD n undef, ?_, fun _ => rfl⟩
  have h1 := arr_lit a.tmps h
  cases a with
  | mk t d =>
    simp only at hd h1
    subst hd
    congr 1
def WoJ (K : Int) (ps : List Ev) (w0 : World) (A : Option Addr) (cap : Nat) (a : Act) (w' : World) : Prop :=
  a.tmps.size = 24 ∧ a.defers = [] ∧ a.tmps.getD 0 undef = .int .i64 K ∧ a.tmps.getD 8 undef = .slice A ps.length cap ∧ a.tmps.getD 9 undef = .int .i64 (ps.length : Int) ∧ ∃ (k : Nat) (v : Value), a.tmps.getD 5 undef = v ∧ a.tmps.getD 10 undef = .int .i64 (k : Int) ∧ k ≤ ps.length ∧
    w'.ownsRow w0.heap.size 105 4 v (wo K (ps.take k)).length ((wo K (ps.take k)).flatMap dE) ∧ Below w0.heap.size w0 w'
set_option maxRecDepth 100000 in
set_option maxHeartbeats 4000000 in
theorem without_any (K : Int) (ps : List Ev) (A : Option Addr) (cap : Nat) (w : World) (hm : ps.length ≤ 1000) (hs : Sl w w.heap.size A (ps.flatMap dE)) :
    Calls Tryd.prog 95 #[.int .i64 K, .slice A ps.length cap] w fun e w' => ∃ B c, e = .returned (.slice B (wo K ps).length c) ∧ Sl w' w'.heap.size B ((wo K ps).flatMap dE) ∧ Below w.heap.size w w' := by
  go_enter Tryd.func95, Tryd.ntmps95
  go_wp2_with fail
  refine wp_loop (WoJ K ps w A cap) (fun a' _ => ps.length - (intOf (a'.tmps.getD 10 undef)).toNat) ?_ ?_
  · exact ⟨rfl, rfl, rfl, rfl, rfl, 0, _, rfl, rfl, Nat.zero_le _, World.ownsRow_nil _ _ _ _, Below.refl _ _⟩
  · rintro a' w' ⟨hsz, hdf, s0, s8, s9, k, v, s5, s10, hk, hown, hbel⟩
    obtain ⟨u, rfl, hu⟩ := frame24 hsz hdf
    rw [hu] at s0 s5 s8 s9 s10
    simp only [s0, s5, s8, s9, s10]
    clear hsz hdf s0 s5 s8 s9 s10 hu
    by_cases hlt : k < ps.length
    · obtain ⟨b, off, rfl, hbb, hcell⟩ := sl_ev (hs.below hbel) hlt
      obtain ⟨h0, h1, h2, h3⟩ := hcell k hlt
      have HK := Lib.hid (show wo K (ps.take (k + 1)) = if ps[k].kind = K then wo K (ps.take k) else wo K (ps.take k) ++ [ps[k]] by
        rw [List.take_succ_eq_append_getElem hlt, wo_snoc])
      have hwl := wo_len K (ps.take k)
      rw [List.length_take] at hwl
      have i1 : (k : Int) < (ps.length : Int) := by omega
      have HB := Lib.hid hbel
      have hwq := hbel.size
      clear hcell hbel
      generalize ps[k] = x at *
      have HB1 := Lib.hid (HB.out.alloc HB.out.size (.cells #[.int .i64 x.kind, .int .i64 x.th, .bool x.rd, .int .i64 x.ct] 105))
      have hown1 := hown.alloc (.cells #[.int .i64 x.kind, .int .i64 x.th, .bool x.rd, .int .i64 x.ct] 105)
      by_cases hK : x.kind = K
      · have q := ibne_no hK
        have HE := Lib.hid (show wo K (ps.take (k + 1)) = wo K (ps.take k) by rw [HK.out, if_pos hK])
        clear hK
        go_wp2_with fail
        go_roundw
        case rel => exact ⟨rfl, rfl, rfl, rfl, rfl, k + 1, v, rfl, by go_num, by omega, by rw [HE.out]; exact hown1, HB1.out⟩
        case measure => simp [intOf]; omega
      · have q := ibne hK
        have HE := Lib.hid (show wo K (ps.take (k + 1)) = wo K (ps.take k) ++ [x] by rw [HK.out, if_neg hK])
        clear hK
        go_wp2_with (at_builtin; refine wpList_append1 (.tmp 18) (.tmp 20) 64 105 _ 4 32 rfl rfl Tryd.underlying64 infoE rfl (by decide) w.heap.size _ _ _ _ _ _ _ _ hown1 rfl rfl ?cge rfl ?d1e ?d2e ?d3e ?d4e ?cke; case' cke => intro v' w2 hown2 hb2 _)
        case cge => first | rfl | simp
        case d1e => simp [Value.oneCell']
        case d2e => simp only [maxLen]; omega
        case d3e => omega
        try (case d4e => simp; omega)
        go_wp2_with fail
        go_roundw
        case rel => exact ⟨rfl, rfl, rfl, rfl, rfl, k + 1, v', rfl, by go_num, by omega, by rw [HE.out]; simpa [dE] using hown2, HB1.out.trans hb2⟩
        case measure => simp [intOf]; omega
    · obtain rfl : k = ps.length := by omega
      rw [List.take_length] at hown
      obtain ⟨A2, c2, rfl, _, _, hs2⟩ := own_slice hown
      go_wp2_with fail
      go_ret
      exact ⟨A2, c2, rfl, hs2, hbel⟩
theorem frame28 {a : Act} (h : a.tmps.size = 28) (hd : a.defers = []) : ∃ u : Nat → Value, a = { tmps := #[u 0, u 1, u 2, u 3, u 4, u 5, u 6, u 7, u 8, u 9, u 10, u 11, u 12, u 13, u 14, u 15, u 16, u 17, u 18, u 19, u 20, u 21, u 22, u 23, u 24, u 25, u 26, u 27], defers := [] } ∧ ∀ n, a.tmps.getD n undef = u n := by
  refine ⟨fun n => a.tmps.getD n undef, ?_, fun _ => rfl⟩
  have h1 := arr_lit a.tmps h
  cases a with
  | mk t d =>
    simp only at hd h1
    subst hd
    congr 1
def WrJ (K : Int) (ps : List Ev) (w0 : World) (A : Option Addr) (cap : Nat) (a : Act) (w' : World) : Prop :=
  a.tmps.size = 28 ∧ a.defers = [] ∧ a.tmps.getD 0 undef = .int .i64 K ∧ a.tmps.getD 1 undef = .slice A ps.length cap ∧ ∃ (k : Nat) (v : Value), a.tmps.getD 5 undef = v ∧ a.tmps.getD 6 undef = .int .i64 (k : Int) ∧ k ≤ ps.length ∧
    w'.ownsRow w0.heap.size 105 4 v (wo K (ps.take k)).length ((wo K (ps.take k)).flatMap dE) ∧ Below w0.heap.size w0 w'
set_option maxRecDepth 100000 in
set_option maxHeartbeats 4000000 in
theorem rwithout_any (K : Int) (ps : List Ev) (A : Option Addr) (cap : Nat) (w : World) (hm : ps.length ≤ 1000) (hs : Sl w w.heap.size A (ps.flatMap dE)) :
    Calls Tryd.prog 58 #[.int .i64 K, .slice A ps.length cap] w fun e w' => ∃ B c, e = .returned (.slice B (wo K ps).length c) ∧ Sl w' w'.heap.size B ((wo K ps).flatMap dE) ∧ Below w.heap.size w w' := by
  go_enter Tryd.func58, Tryd.ntmps58
  go_wp2_with fail
  refine wp_loop (WrJ K ps w A cap) (fun a' _ => ps.length - (intOf (a'.tmps.getD 6 undef)).toNat) ?_ ?_
  · exact ⟨rfl, rfl, rfl, rfl, 0, _, rfl, rfl, Nat.zero_le _, World.ownsRow_nil _ _ _ _, Below.refl _ _⟩
  · rintro a' w' ⟨hsz, hdf, s0, s1, k, v, s5, s6, hk, hown, hbel⟩
    obtain ⟨u, rfl, hu⟩ := frame28 hsz hdf
    rw [hu] at s0 s1 s5 s6
    simp only [s0, s1, s5, s6]
    clear hsz hdf s0 s1 s5 s6 hu
    by_cases hlt : k < ps.length
    · obtain ⟨b, off, rfl, hbb, hcell⟩ := sl_ev (hs.below hbel) hlt
      obtain ⟨h0, h1, h2, h3⟩ := hcell k hlt
      have HK := Lib.hid (show wo K (ps.take (k + 1)) = if ps[k].kind = K then wo K (ps.take k) else wo K (ps.take k) ++ [ps[k]] by
        rw [List.take_succ_eq_append_getElem hlt, wo_snoc])
      have hwl := wo_len K (ps.take k)
      rw [List.length_take] at hwl
      have i1 : (k : Int) < (ps.length : Int) := by omega
      have HB := Lib.hid hbel
      have hwq := hbel.size
      clear hcell hbel
      generalize ps[k] = x at *
      by_cases hK : x.kind = K
      · have q := ibne_no hK
        have HE := Lib.hid (show wo K (ps.take (k + 1)) = wo K (ps.take k) by rw [HK.out, if_pos hK])
        clear hK
        go_wp2_with fail
        go_roundw
        case rel => exact ⟨rfl, rfl, rfl, rfl, k + 1, v, rfl, by go_num, by omega, by rw [HE.out]; exact hown, HB.out⟩
        case measure => simp [intOf]; omega
      · have q := ibne hK
        have HE := Lib.hid (show wo K (ps.take (k + 1)) = wo K (ps.take k) ++ [x] by rw [HK.out, if_neg hK])
        clear hK
        go_wp2_with (at_builtin; refine wpList_append1 (.tmp 20) (.tmp 25) 64 105 _ 4 32 rfl rfl Tryd.underlying64 infoE rfl (by decide) w.heap.size _ _ _ _ _ _ _ _ hown rfl rfl ?cge rfl ?d1e ?d2e ?d3e ?d4e ?cke; case' cke => intro v' w2 hown2 hb2 _)
        case cge => first | rfl | simp
        case d1e => simp [Value.oneCell']
        case d2e => simp only [maxLen]; omega
        case d3e => omega
        try (case d4e => omega)
        go_wp2_with fail
        go_roundw
        case rel => exact ⟨rfl, rfl, rfl, rfl, k + 1, v', rfl, by go_num, by omega, by rw [HE.out]; simpa [dE] using hown2, HB.out.trans hb2⟩
        case measure => simp [intOf]; omega
    · obtain rfl : k = ps.length := by omega
      rw [List.take_length] at hown
      obtain ⟨A2, c2, rfl, _, _, hs2⟩ := own_slice hown
      go_wp2_with fail
      go_ret
      exact ⟨A2, c2, rfl, hs2, hbel⟩
theorem brief_any (ps : List Ev) (A : Option Addr) (cap : Nat) (w : World) (hm : ps.length ≤ 1000) (hs : Sl w w.heap.size A (ps.flatMap dE)) :
    Calls Tryd.prog 57 #[.slice A ps.length cap] w fun e w' => ∃ B c, e = .returned (.slice B (wo 0 ps).length c) ∧ Sl w' w'.heap.size B ((wo 0 ps).flatMap dE) ∧ Below w.heap.size w w' := by
  have h := Lib.hid (without_any 0 ps A cap w hm hs)
  go_enter Tryd.func57, Tryd.ntmps57
  go_wp2_with fail
  refine h.out.mono ?_
  rintro e w1 ⟨B, c, rfl, s1, b1⟩
  have B1 := Lib.hid b1
  have S1 := Lib.hid s1
  clear b1 s1
  go_wp2_with fail
  go_ret
  exact ⟨B, c, rfl, S1.out, B1.out⟩
theorem clean_any (ps : List Ev) (A : Option Addr) (cap : Nat) (w : World) (hm : ps.length ≤ 1000) (hs : Sl w w.heap.size A (ps.flatMap dE)) :
    Calls Tryd.prog 59 #[.slice A ps.length cap] w fun e w' => ∃ B c, e = .returned (.slice B (wo 5 ps).length c) ∧ Sl w' w'.heap.size B ((wo 5 ps).flatMap dE) ∧ Below w.heap.size w w' := by
  have h := Lib.hid (without_any 5 ps A cap w hm hs)
  go_enter Tryd.func59, Tryd.ntmps59
  go_wp2_with fail
  refine h.out.mono ?_
  rintro e w1 ⟨B, c, rfl, s1, b1⟩
  have B1 := Lib.hid b1
  have S1 := Lib.hid s1
  clear b1 s1
  go_wp2_with fail
  go_ret
  exact ⟨B, c, rfl, S1.out, B1.out⟩
end Go.Proofs.YtcfdphfochfeoaaDoor.Tr
