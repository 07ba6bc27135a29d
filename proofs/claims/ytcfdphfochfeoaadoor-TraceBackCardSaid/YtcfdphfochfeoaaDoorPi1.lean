/- Walks of picks: what a letter says, picks compared, threads. -/
import Derived.Test.YtcfdphfochfeoaaDoorDe7
import Derived.Test.YtcfdphfochfeoaaDoorPiP
import Derived.Laws.RangeString
namespace Go.Proofs.YtcfdphfochfeoaaDoor.Pi
open Go.RowKit Go.Proofs.YtcfdphfochfeoaaDoor.Li Go.Proofs.YtcfdphfochfeoaaDoor.De Go.Proofs.YtcfdphfochfeoaaDoor.Ara

def wv (c : UInt8) : Int := match wantOf c with
  | some k => (k : Int)
  | none => 0
def wb (c : UInt8) : Bool := (wantOf c).isSome
theorem want_hit {j : Nat} (h : j < 5) {c : UInt8} (hc : lets.getD j 0 = c) : wv c = (j : Int) ∧ wb c = true := by
  subst hc
  unfold wv wb
  rw [wantOf_lets j h]
  exact ⟨rfl, rfl⟩
theorem want_no {c : UInt8} (h : ∀ i, i < 5 → c ≠ lets.getD i 0) : wv c = 0 ∧ wb c = false := by
  have : wantOf c = none := by
    unfold wantOf
    rw [if_neg (show c ≠ 115 from h 0 (by omega)), if_neg (show c ≠ 108 from h 1 (by omega)), if_neg (show c ≠ 117 from h 2 (by omega)), if_neg (show c ≠ 114 from h 3 (by omega)), if_neg (show c ≠ 118 from h 4 (by omega))]
  unfold wv wb
  rw [this]
  exact ⟨rfl, rfl⟩
theorem lets_at : ∀ (j : Nat) (h : j < 5), ((⟨#[115, 108, 117, 114, 118]⟩ : ByteArray))[j]'h = lets.getD j 0
  | 0, _ => rfl
  | 1, _ => rfl
  | 2, _ => rfl
  | 3, _ => rfl
  | 4, _ => rfl
  | n + 5, h => by omega
theorem lets_low : ∀ j, j < 5 → (lets.getD j 0).toNat < 128 := by decide
set_option maxRecDepth 100000 in
theorem rwant_any (c : UInt8) (w : World) : Calls Tryd.prog 46 #[.int .u8 (c.toNat : Int)] w fun e w' => e = .returned (.tuple #[.int .i64 (wv c), .bool (wb c)]) ∧ w' = w := by
  go_enter Tryd.func46, Tryd.ntmps46
  go_wp2_with fail
  go_loopw [5] (fun i wr => ∃ j : Nat, j ≤ 5 ∧ i = .int .i64 (j : Int) ∧ (∀ i, i < j → c ≠ lets.getD i 0) ∧ wr = w) (fun i _ => 5 - (intOf i).toNat)
  case atStart => exact ⟨0, by omega, rfl, fun i h => by omega, rfl⟩
  case round =>
    obtain ⟨j, hj, rfl, hno, hwr⟩ := hrel
    subst hwr
    have HN := Lib.hid hno
    clear hno
    by_cases hlt : j < 5
    · have hix : ∀ W, (Instr.index 9 (.string (⟨#[115, 108, 117, 114, 118]⟩ : ByteArray)) (.int .i64 (j : Int))).run Tryd.prog W = .ok (.int .u8 ((lets.getD j 0).toNat : Int)) W := fun W => ix_str (B lets) j hlt W
      have HH := Lib.hid (fun h => want_hit hlt (c := c) h)
      have i1 : (j : Int) < 5 := by omega
      have HS := Lib.hid (show c ≠ lets.getD j 0 → ∀ i, i < j + 1 → c ≠ lets.getD i 0 by
        intro h i hi
        by_cases e : i = j
        · subst e; exact h
        · exact HN.out i (by omega))
      generalize lets.getD j 0 = y at *
      by_cases he : y = c
      · have q := nbeq (congrArg UInt8.toNat he)
        obtain ⟨h1, h2⟩ := HH.out he
        have h1 := Lib.hid h1
        have h2 := Lib.hid h2
        clear he
        go_wp2_with fail
        go_ret2
        exact ⟨by first | rfl | (rw [h1.out, h2.out]; rfl), by trivial⟩
      · have q := nbeq_no (fun e => he (UInt8.toNat_inj.1 e))
        have HS := Lib.hid (HS.out (fun e => he e.symm))
        clear he
        go_wp2_with fail
        go_roundw
        case rel => exact ⟨j + 1, by omega, by go_num, HS.out, by trivial⟩
        case measure => simp [intOf]; omega
    · have i1 : ¬ (j : Int) < 5 := by omega
      obtain ⟨h1, h2⟩ := want_no (c := c) (fun i hi => HN.out i (by omega))
      have h1 := Lib.hid h1
      have h2 := Lib.hid h2
      go_wp2_with fail
      go_ret2
      exact ⟨by first | rfl | (rw [h1.out, h2.out]; rfl), by trivial⟩
theorem iter_pos (w : World) (s : ByteArray) (j : Nat) : (w.iter s j).iterPos w.heap.size = j := by simp [World.iterPos, World.iter_heap]
theorem iter_below (w : World) (s : ByteArray) (j : Nat) : Below w.heap.size w (w.iter s j) := below_new w _
set_option maxRecDepth 100000 in
theorem want_any (c : UInt8) (w : World) : Calls Tryd.prog 45 #[.int .u8 (c.toNat : Int)] w fun e w' => e = .returned (.tuple #[.int .i64 (wv c), .bool (wb c)]) ∧ Below w.heap.size w w' := by
  have hc := c.toNat_lt
  go_enter Tryd.func45, Tryd.ntmps45
  go_wp2_with fail
  go_loopw [4] (fun _ wr => ∃ j : Nat, j ≤ 5 ∧ wr = w.iter (⟨#[115, 108, 117, 114, 118]⟩ : ByteArray) j ∧ (∀ i, i < j → c ≠ lets.getD i 0)) (fun _ wr => 5 - wr.iterPos w.heap.size)
  case atStart => exact ⟨0, by omega, rfl, fun i h => by omega⟩
  case round =>
    obtain ⟨j, hj, hwr, hno⟩ := hrel
    subst hwr
    have HN := Lib.hid hno
    clear hno
    by_cases hlt : j < 5
    · have hnx : ∀ ty, (Instr.next (.pointer (some ⟨w.heap.size, 0, none⟩)) true ty).run Tryd.prog (w.iter (⟨#[115, 108, 117, 114, 118]⟩ : ByteArray) j) = .ok (.tuple #[.bool true, .int .i64 (j : Int), .int .i32 ((lets.getD j 0).toNat : Int)]) (w.iter (⟨#[115, 108, 117, 114, 118]⟩ : ByteArray) (j + 1)) := fun ty => by
        have := run_next_ascii (P := Tryd.prog) w (⟨#[115, 108, 117, 114, 118]⟩ : ByteArray) j ty hlt (by rw [lets_at j hlt]; exact lets_low j hlt)
        rw [lets_at j hlt] at this
        exact this
      have HH := Lib.hid (fun h => want_hit hlt (c := c) h)
      have hlow := lets_low j hlt
      have HS := Lib.hid (show c ≠ lets.getD j 0 → ∀ i, i < j + 1 → c ≠ lets.getD i 0 by
        intro h i hi
        by_cases e : i = j
        · subst e; exact h
        · exact HN.out i (by omega))
      generalize lets.getD j 0 = y at *
      by_cases he : y = c
      · have q := nbeq (congrArg UInt8.toNat he).symm
        obtain ⟨h1, h2⟩ := HH.out he
        have h1 := Lib.hid h1
        have h2 := Lib.hid h2
        clear he
        go_wp2_with fail
        go_ret2
        exact ⟨by first | rfl | (rw [h1.out, h2.out]; rfl), iter_below _ _ _⟩
      · have q := nbeq_no (fun e => he (UInt8.toNat_inj.1 e.symm))
        have HS := Lib.hid (HS.out (fun e => he e.symm))
        clear he
        go_wp2_with fail
        go_roundw
        case rel => exact ⟨j + 1, by omega, rfl, HS.out⟩
        case measure => rw [iter_pos, iter_pos]; omega
    · have hnx : ∀ ty, (Instr.next (.pointer (some ⟨w.heap.size, 0, none⟩)) true ty).run Tryd.prog (w.iter (⟨#[115, 108, 117, 114, 118]⟩ : ByteArray) j) = .ok (.tuple #[.bool false]) (w.iter (⟨#[115, 108, 117, 114, 118]⟩ : ByteArray) j) := fun ty => run_next_end (P := Tryd.prog) w (⟨#[115, 108, 117, 114, 118]⟩ : ByteArray) j ty (show ¬ j < 5 from hlt)
      obtain ⟨h1, h2⟩ := want_no (c := c) (fun i hi => HN.out i (by omega))
      have h1 := Lib.hid h1
      have h2 := Lib.hid h2
      go_wp2_with fail
      go_ret2
      exact ⟨by first | rfl | (rw [h1.out, h2.out]; rfl), iter_below _ _ _⟩

/-! picks in memory -/
def dP (p : Pk) : List Value := [.int .i64 p.th, .int .i64 p.want]
theorem infoP : (Tryd.prog.info? 59).map (fun i => (i.zero, i.size, i.bytes)) = some (some (.agg #[.int .i64 0, .int .i64 0]), 2, 16) := by kernel_rfl
theorem sl_pk {w : World} {Bd : Nat} {A : Option Addr} {ps : List Pk} (h : Sl w Bd A (ps.flatMap dP)) {k : Nat} (hk : k < ps.length) : ∃ b off, A = some ⟨b, off, none⟩ ∧ b < Bd ∧ ∀ j (h : j < ps.length), w.cell? ⟨b, off + j * 2, none⟩ = some (.int .i64 ps[j].th) ∧ w.cell? ⟨b, off + j * 2 + 1, none⟩ = some (.int .i64 ps[j].want) := by
  obtain ⟨b, off, rfl, hb, hc⟩ := Sl_at (dec := dP) (k := 2) (fun _ => rfl) (by omega) h (by omega)
  refine ⟨b, off, rfl, hb, fun j hj => ?_⟩
  have h0 := hc j hj 0 (by omega)
  have h1 := hc j hj 1 (by omega)
  simp only [dP, List.getElem?_cons_zero, List.getElem?_cons_succ, Nat.add_zero, ← Nat.add_assoc] at h0 h1
  exact ⟨h0, h1⟩
theorem neP (a b c d : Int) (W : World) : (binOp .neq 59 (.agg #[.int .i64 a, .int .i64 b]) (.agg #[.int .i64 c, .int .i64 d])).run Tryd.prog W = .ok (.bool (!(a == c && b == d))) W := by
  have hp : Tryd.prog.stoodInHeld 59 = false := by kernel_rfl
  have key : ∀ n, (Op.equalIn (n + 1 + 1) 59 (.agg #[.int .i64 a, .int .i64 b]) (.agg #[.int .i64 c, .int .i64 d])).run Tryd.prog W = .ok (a == c && b == d) W := by
    intro n
    simp only [Op.equalIn, Sem.run_bind, run_underlying Tryd.underlying59, Result.andThen_ok, run_program, hp, Bool.false_eq_true, if_false]
    rw [← Array.forIn_toList]
    simp [go_sem, Op.equalIn, Tryd.underlying3]
    by_cases h : a = c <;> by_cases k : b = d <;> simp [h, k, go_sem, Op.equalIn, Tryd.underlying3]
  have k := key 9998
  simp only [binOp]
  simp [Op.equal, Op.maxDepth, k]
theorem neGP (x y : Operand) (xs ys : Array Value) (W : World) : (eqGuard .neq 59 x y (.agg xs) (.agg ys)).run Tryd.prog W = .ok () W := by
  have hm : Tryd.prog.eqGuardType Tryd.prog.depth 59 = false := by kernel_rfl
  simp [eqGuard, run_program, hm]
set_option maxHeartbeats 4000000 in
theorem psame_any (l k : List Pk) (A C : Option Addr) (c1 c2 : Nat) (w : World) (hm : l.length ≤ 4096) (hm2 : k.length ≤ 4096)
    (hs : Sl w w.heap.size A (l.flatMap dP)) (ht : Sl w w.heap.size C (k.flatMap dP)) :
    Calls Tryd.prog 48 #[.slice A l.length c1, .slice C k.length c2] w fun e w' => e = .returned (.bool (decide (l = k))) ∧ Below w.heap.size w w' := by
  by_cases hl : l.length = k.length
  · have hlb := nbeq hl
    have hlb2 := nbne_no hl
    have HL := Lib.hid hl
    clear hl
    go_enter Tryd.func48, Tryd.ntmps48
    go_wp2_with fail
    go_loopw [5] (fun i wr => ∃ j : Nat, j ≤ l.length ∧ i = .int .i64 j ∧ l.take j = k.take j ∧ Below w.heap.size w wr) (fun i _ => l.length - (intOf i).toNat)
    case atStart => exact ⟨0, by omega, rfl, rfl, Below.refl _ _⟩
    case round =>
      obtain ⟨j, hj, rfl, hjt, hb⟩ := hrel
      have HJ := Lib.hid hjt
      clear hjt
      by_cases hlt : j < l.length
      · have hlt2 : j < k.length := by have := HL.out; omega
        obtain ⟨b, off, rfl, hbb, hcell⟩ := sl_pk (hs.below hb) hlt
        obtain ⟨b', off', rfl, hbb', hcell'⟩ := sl_pk (ht.below hb) hlt2
        obtain ⟨h0, h1⟩ := hcell j hlt
        obtain ⟨g0, g1⟩ := hcell' j hlt2
        clear hcell hcell'
        have i1 : (j : Int) < (k.length : Int) := by omega
        have i0 : (j : Int) < (l.length : Int) := by omega
        have hnx := Lib.hid (show l[j] = k[j] → l.take (j + 1) = k.take (j + 1) by
          intro h
          rw [List.take_succ_eq_append_getElem hlt, List.take_succ_eq_append_getElem hlt2, HJ.out, h])
        have hno := Lib.hid (show ¬ l[j] = k[j] → decide (l = k) = false by
          intro h
          rw [decide_eq_false_iff_not]
          rintro rfl
          exact h rfl)
        generalize l[j] = x at *
        generalize k[j] = y at *
        obtain ⟨xa, xb⟩ := x
        obtain ⟨ya, yb⟩ := y
        simp only at h0 h1 g0 g1
        have HB := Lib.hid hb
        by_cases hn : xa = ya ∧ xb = yb
        · have q : (xa == ya && xb == yb) = true := by simp [hn.1, hn.2]
          have HN := Lib.hid (hnx.out (by rw [hn.1, hn.2]))
          have hne : ∀ W, (binOp .neq 59 (.agg #[.int .i64 xa, .int .i64 xb]) (.agg #[.int .i64 ya, .int .i64 yb])).run Tryd.prog W = .ok (.bool false) W := fun W => by rw [neP, q]; rfl
          have hng := neGP
          clear hn q hb
          go_wp2_with fail
          go_quiet (fail)
          go_wp2
          go_roundw
          case rel => exact ⟨j + 1, by omega, by go_num, HN.out, below_drewN HB.out _⟩
          case measure => simp [intOf]; omega
        · have q : (xa == ya && xb == yb) = false := by
            rw [Bool.and_eq_false_iff]
            by_cases h : xa = ya
            · right; exact ibeq_no (fun e => hn ⟨h, e⟩)
            · left; exact ibeq_no h
          have HN := Lib.hid (hno.out (by intro e; injection e with e1 e2; exact hn ⟨e1, e2⟩))
          have hne : ∀ W, (binOp .neq 59 (.agg #[.int .i64 xa, .int .i64 xb]) (.agg #[.int .i64 ya, .int .i64 yb])).run Tryd.prog W = .ok (.bool true) W := fun W => by rw [neP, q]; rfl
          have hng := neGP
          clear hn q hb
          go_wp2_with fail
          go_quiet (fail)
          go_wp2
          go_ret
          exact ⟨by rw [HN.out]; rfl, below_drewN HB.out _⟩
      · have he := Lib.hid (show decide (l = k) = true by
          rw [decide_eq_true_iff]
          have := HJ.out
          rwa [List.take_of_length_le (by omega), List.take_of_length_le (by have := HL.out; omega)] at this)
        go_wp2
        go_ret
        exact ⟨by rw [he.out]; rfl, hb⟩
  · have hlb2 := nbne hl
    have hn := Lib.hid (show decide (l = k) = false by simp; rintro rfl; exact hl rfl)
    clear hl
    go_enter Tryd.func48, Tryd.ntmps48
    go_wp2
    go_ret
    exact ⟨by rw [hn.out]; rfl, Below.refl _ _⟩
end Go.Proofs.YtcfdphfochfeoaaDoor.Pi
