/- Layer 18's law McsOrder. -/
import Derived.Test.YthffhhgaeolpgaaMcA
import Derived.Test.YthffhhgaeolpgaaLokX
import Derived.Deep.Cut
import Derived.Deep.CutBlock
namespace Go.Proofs.Ythffhhgaeolpgaa.Mc
open Go.RowKit Go.Proofs.Ythffhhgaeolpgaa.Ara Go.Proofs.Ythffhhgaeolpgaa.Lok

theorem frame147 {a : Act} (h : a.tmps.size = 147) (hd : a.defers = []) : ∃ u : Nat → Value, a = { tmps := #[u 0, u 1, u 2, u 3, u 4, u 5, u 6, u 7, u 8, u 9, u 10, u 11, u 12, u 13, u 14, u 15, u 16, u 17, u 18, u 19, u 20, u 21, u 22, u 23, u 24, u 25, u 26, u 27, u 28, u 29, u 30, u 31, u 32, u 33, u 34, u 35, u 36, u 37, u 38, u 39, u 40, u 41, u 42, u 43, u 44, u 45, u 46, u 47, u 48, u 49, u 50, u 51, u 52, u 53, u 54, u 55, u 56, u 57, u 58, u 59, u 60, u 61, u 62, u 63, u 64, u 65, u 66, u 67, u 68, u 69, u 70, u 71, u 72, u 73, u 74, u 75, u 76, u 77, u 78, u 79, u 80, u 81, u 82, u 83, u 84, u 85, u 86, u 87, u 88, u 89, u 90, u 91, u 92, u 93, u 94, u 95, u 96, u 97, u 98, u 99, u 100, u 101, u 102, u 103, u 104, u 105, u 106, u 107, u 108, u 109, u 110, u 111, u 112, u 113, u 114, u 115, u 116, u 117, u 118, u 119, u 120, u 121, u 122, u 123, u 124, u 125, u 126, u 127, u 128, u 129, u 130, u 131, u 132, u 133, u 134, u 135, u 136, u 137, u 138, u 139, u 140, u 141, u 142, u 143, u 144, u 145, u 146], defers := [] } ∧ ∀ n, a.tmps.getD n undef = u n := by
  refine ⟨fun n => a.tmps.getD n undef, ?_, fun _ => rfl⟩
  have h1 := arr_lit a.tmps h
  cases a with
  | mk t d =>
    simp only at hd h1
    subst hd
    congr 1
theorem takeO (k : Nat) (h1 : k ≤ 32) : (Ar.fresh (room 100)).take (1 + 2 * (k : Int)) = ((1, 0), ⟨zerosW 100, 1 + 2 * k, 0, 0, 0, false⟩) := by
  unfold Ar.take
  rw [if_neg (by omega), if_neg (by simp [Ar.fresh, zerosW, room]; omega), show (1 + 2 * (k : Int)).toNat = 1 + 2 * k by omega]
  simp [Ar.fresh, room]
def OrX (P : Par) (X0 : St) (l : List Ac) : St := l.foldl (ordS P) X0
def OrR1 (l : List Ac) (N gl ga ha hs B1 : Nat) (P : Par) (σ : Ar) (sp : List Sp) (w : World) (a : Act) (W : World) : Prop :=
  a.tmps.size = 147 ∧ a.defers = [] ∧ a.tmps.getD 5 undef = .int .i64 N ∧ a.tmps.getD 6 undef = .pointer (some ⟨ga, 0, none⟩) ∧ a.tmps.getD 7 undef = .pointer (some ⟨gl, 0, none⟩) ∧
    ∃ (r : Nat) (v : Value), a.tmps.getD 10 undef = .int .i64 r ∧ a.tmps.getD 9 undef = v ∧ r ≤ 12 * N + 12 ∧ W.ownsRow B1 34 2 v (l ++ rActs N r).length ((l ++ rActs N r).flatMap decAc) ∧ LkAt W gl ga ha hs P σ sp ∧ Below w.heap.size w W ∧ B1 ≤ W.heap.size
def OrR2 (l : List Ac) (N gl ga ha hs B1 r : Nat) (P : Par) (σ : Ar) (sp : List Sp) (w : World) (a : Act) (W : World) : Prop :=
  a.tmps.size = 147 ∧ a.defers = [] ∧ a.tmps.getD 5 undef = .int .i64 N ∧ a.tmps.getD 6 undef = .pointer (some ⟨ga, 0, none⟩) ∧ a.tmps.getD 7 undef = .pointer (some ⟨gl, 0, none⟩) ∧ a.tmps.getD 10 undef = .int .i64 r ∧
    ∃ (i : Nat) (v : Value), a.tmps.getD 11 undef = .int .i64 i ∧ a.tmps.getD 9 undef = v ∧ i ≤ N ∧ W.ownsRow B1 34 2 v (l ++ rActs N r ++ rAct i).length ((l ++ rActs N r ++ rAct i).flatMap decAc) ∧ LkAt W gl ga ha hs P σ sp ∧ Below w.heap.size w W ∧ B1 ≤ W.heap.size
/-- The acts' loop. -/
def OrJ (all : List Ac) (N gl ga ha hs B1 B3 : Nat) (P : Par) (X0 : St) (w : World) (a : Act) (W : World) : Prop :=
  a.tmps.size = 147 ∧ a.defers = [] ∧ a.tmps.getD 5 undef = .int .i64 N ∧ a.tmps.getD 6 undef = .pointer (some ⟨ga, 0, none⟩) ∧ a.tmps.getD 7 undef = .pointer (some ⟨gl, 0, none⟩) ∧
    ∃ (k : Nat) (x : St) (va vd vh : Value), a.tmps.getD 14 undef = .int .i64 k ∧ a.tmps.getD 9 undef = va ∧ a.tmps.getD 12 undef = vd ∧ a.tmps.getD 13 undef = vh ∧ k ≤ all.length ∧ OrX P X0 (all.take k) = x ∧ OkP P x.σ x.sp N k ∧ LkAt W gl ga ha hs P x.σ x.sp ∧ Tris W B1 B3 va vd vh all x.doors x.held ∧ Below w.heap.size w W
/-- Behind an act, ahead of the row of doorways; behind it. -/
def OrA (N gl ga ha hs B1 B3 : Nat) (P : Par) (k : Nat) (i pc : Int) (va vd vh : Value) (d : Bool) (all : List Ac) (x : St) (doors : List Int) (w : World) (a : Act) (W : World) : Prop :=
  a.tmps.size = 147 ∧ a.defers = [] ∧ a.tmps.getD 5 undef = .int .i64 N ∧ a.tmps.getD 6 undef = .pointer (some ⟨ga, 0, none⟩) ∧ a.tmps.getD 7 undef = .pointer (some ⟨gl, 0, none⟩) ∧ a.tmps.getD 14 undef = .int .i64 k ∧ a.tmps.getD 9 undef = va ∧ a.tmps.getD 12 undef = vd ∧ a.tmps.getD 13 undef = vh ∧ a.tmps.getD 15 undef = .int .i64 i ∧ a.tmps.getD 16 undef = .int .i64 pc ∧ a.tmps.getD 113 undef = .bool d ∧
    LkAt W gl ga ha hs P x.σ x.sp ∧ Tris W B1 B3 va vd vh all doors x.held ∧ Below w.heap.size w W
def OrB (N gl ga ha hs B1 B3 : Nat) (P : Par) (k : Nat) (i : Int) (va vd vh : Value) (d : Bool) (all : List Ac) (x : St) (doors : List Int) (w : World) (a : Act) (W : World) : Prop :=
  a.tmps.size = 147 ∧ a.defers = [] ∧ a.tmps.getD 5 undef = .int .i64 N ∧ a.tmps.getD 6 undef = .pointer (some ⟨ga, 0, none⟩) ∧ a.tmps.getD 7 undef = .pointer (some ⟨gl, 0, none⟩) ∧ a.tmps.getD 14 undef = .int .i64 k ∧ a.tmps.getD 9 undef = va ∧ a.tmps.getD 12 undef = vd ∧ a.tmps.getD 13 undef = vh ∧ a.tmps.getD 15 undef = .int .i64 i ∧ a.tmps.getD 126 undef = .bool d ∧
    LkAt W gl ga ha hs P x.σ x.sp ∧ Tris W B1 B3 va vd vh all doors x.held ∧ Below w.heap.size w W
def OrE (N gl ga ha hs : Nat) (P : Par) (va vd vh : Value) (B1 B3 : Nat) (all : List Ac) (x : St) (w : World) (a : Act) (W : World) : Prop :=
  a.tmps.size = 147 ∧ a.defers = [] ∧ a.tmps.getD 5 undef = .int .i64 N ∧ a.tmps.getD 7 undef = .pointer (some ⟨gl, 0, none⟩) ∧ a.tmps.getD 12 undef = vd ∧ a.tmps.getD 13 undef = vh ∧
    ∃ j : Nat, a.tmps.getD 18 undef = .int .i64 j ∧ j ≤ N ∧ LkAt W gl ga ha hs P x.σ x.sp ∧ Tris W B1 B3 va vd vh all x.doors x.held ∧ Below w.heap.size w W
/-- Is it a doorway? Has it come to hold? -/
def isDoor (P : Par) (x : St) (c : Ac) : Bool := decide (c.kind = 0 ∧ 0 < (spOf x.sp c.i).pc ∧ (spOf x.sp c.i).pc < 10 ∧ x.σ.ops < (doP P x.σ x.sp c.kind c.i).2.1.ops ∧ (doP P x.σ x.sp c.kind c.i).2.1.kind = 3)
def isHold (P : Par) (x : St) (c : Ac) : Bool := decide ((spOf x.sp c.i).pc < 10 ∧ (spOf (doP P x.σ x.sp c.kind c.i).2.2 c.i).pc = 10)
theorem ordS_eq (P : Par) (x : St) (c : Ac) : ordS P x c = ⟨(doP P x.σ x.sp c.kind c.i).2.1, (doP P x.σ x.sp c.kind c.i).2.2, if isDoor P x c then x.doors ++ [c.i] else x.doors, if isHold P x c then x.held ++ [c.i] else x.held⟩ := by
  unfold ordS isDoor isHold
  simp only [decide_eq_true_eq]
theorem LkAt.base {B gl ga ha hs : Nat} {P : Par} {σ : Ar} {sp : List Sp} {W W' : World} (k : LkAt W gl ga ha hs P σ sp) (hb : Below B W W') (h1 : gl < B) (h2 : ga < B) (h3 : ha < B) (h4 : hs < B) : LkAt W' gl ga ha hs P σ sp := by
  obtain ⟨k1, k2, k3, ⟨c, k4⟩, k5⟩ := k
  exact ⟨k1.upd (S := []) (Upd.of_below hb) h2 h3 (by simp) (by simp), k2.of_blk (hb.block hs h4), k3, ⟨c, (hb.block gl h1).trans k4⟩, k5⟩
theorem fold_len (P : Par) (l : List Ac) : ∀ (x : St), (l.foldl (ordS P) x).sp.length = x.sp.length ∧ (l.foldl (ordS P) x).doors.length ≤ x.doors.length + l.length ∧ (l.foldl (ordS P) x).held.length ≤ x.held.length + l.length := by
  induction l with
  | nil => exact fun _ => ⟨rfl, Nat.le_refl _, Nat.le_refl _⟩
  | cons c l ih =>
    intro x
    obtain ⟨h1, h2, h4⟩ := ih (ordS P x c)
    have h5 : (ordS P x c).held.length ≤ x.held.length + 1 := by
      unfold ordS
      simp only
      split
      · simp
      · omega
    refine ⟨h1.trans (do_len P x.σ x.sp c.kind c.i), ?_⟩
    have h3 : (ordS P x c).doors.length ≤ x.doors.length + 1 := by
      unfold ordS
      simp only
      split
      · simp
      · omega
    simp only [List.foldl_cons, List.length_cons]
    constructor <;> omega
set_option maxHeartbeats 16000000 in
set_option maxRecDepth 100000 in
theorem order_walk (n : Int) (n0 : 0 ≤ n) (n1 : n ≤ 255) (l : List Ac) (A : Option Addr) (cap : Nat) (w : World) (hl : l.length ≤ 100) (hs : Sl w w.heap.size A (l.flatMap decAc)) (hnil : A = none → cap = 0) :
    Calls Try.prog 8 #[.int .u8 n, .slice A l.length cap] w fun e w' => e = .returned (.bool true) ∧ Below w.heap.size w w' := by
  have i1 : (l.length : Int) ≤ 100 := by omega
  have m0 : 0 ≤ n % 8 := by omega
  have m1 : n % 8 < 8 := by omega
  have m2 : 0 ≤ n / 8 % 4 := by omega
  have m3 : n / 8 % 4 < 4 := by omega
  obtain ⟨N, hN⟩ := Int.eq_ofNat_of_zero_le (show 0 ≤ 1 + n % 8 by omega)
  have hN1 : 1 ≤ N := by omega
  have hN2 : N ≤ 8 := by omega
  have HSl := Lib.hid hs
  have HNil := Lib.hid hnil
  clear hs hnil
  go_enter Try.func8, Try.ntmps8
  go_wp2_with fail
  refine (new_at 100 _ _ rfl).mono ?_
  rintro e w1 ⟨rfl, hat⟩
  go_wp2_with fail
  have HN := new_lk (w.heap.size + 1) w.heap.size _ _ w1 hat.1 (by have := hat.2.1; omega) N hN1 (by omega) 1 (by omega) (by omega) (takeO N (by omega)) (by show 0 ≤ _; omega)
  replace HN := Lib.hid HN
  refine HN.out.mono ?_
  rintro e w2 ⟨gl, hs, rfl, hk, hgl, hhs, hmn⟩
  obtain ⟨P, x0, HK, HO, HOrd⟩ : ∃ (P : Par) (x : Ar × List Sp), Hid (LkAt w2 gl (w.heap.size + 1) w.heap.size hs P x.1 x.2) ∧ Hid (OkP P x.1 x.2 N 0) ∧ Hid (OrdP P ⟨x.1, x.2, [], []⟩) := ⟨_, first1 N, hk, OkP.first N (by omega), ord_first N (by omega)⟩
  have HB := Lib.hid (hat.2.2.trans (hmn.below (by have := hat.2.1; omega) (by simp)))
  have HG := Lib.hid (show w.heap.size ≤ gl ∧ w.heap.size ≤ hs from by have := hat.2.1; omega)
  clear hk hmn hgl hhs HN hat
  have hBw := HB.out.size
  go_wp2_with (at_builtin; refine wpList_append_all (.tmp 40) (.tmp 41) rfl rfl _ A cap _ l rfl rfl (HSl.out.below HB.out) HNil.out (by omega) ?cks; case' cks => intro v3 w3 hown3 hb3)
  have HK3 := Lib.hid (HK.out.same hb3.out)
  have HB3 := Lib.hid (HB.out.trans (hb3.out.mono hBw))
  have hz3 := hb3.out.size
  have hsz3 : hs < w2.heap.size ∧ gl < w2.heap.size ∧ w.heap.size + 1 < w2.heap.size := ⟨HK.out.2.1.lt, HK.out.ltl, HK.out.1.lt⟩
  clear HK HB hb3
  generalize w2.heap.size = B1 at *
  refine wp_loop (OrR1 l N gl (w.heap.size + 1) w.heap.size hs B1 P x0.1 x0.2 w) (fun a' _ => 12 * N + 12 - (intOf (a'.tmps.getD 10 undef)).toNat) ?_ ?_
  · exact ⟨rfl, rfl, rfl, rfl, rfl, 0, v3, rfl, rfl, Nat.zero_le _, by simpa [rActs] using hown3.out, HK3.out, HB3.out, hz3⟩
  · clear HK3 HB3 hz3 hown3
    rintro a' W ⟨hsz, hdf, s5, s6, s7, r, v, s10, s9, hr, hown, hK, hB, hz⟩
    obtain ⟨u, rfl, hu⟩ := frame147 hsz hdf
    rw [hu] at s5 s6 s7 s10 s9
    simp only [s5, s6, s7, s10, s9]
    clear hsz hdf s5 s6 s7 s10 s9 hu
    have HK := Lib.hid hK
    have HB := Lib.hid hB
    have HOwn := Lib.hid hown
    clear hK hB hown
    have e1 : IntKind.i64.wrap (12 * (N : Int)) = 12 * (N : Int) := IntWalk.i64_in _ (by omega)
    have e2 : IntKind.i64.wrap (12 * (N : Int) + 12) = 12 * (N : Int) + 12 := IntWalk.i64_in _ (by omega)
    by_cases hlt : r < 12 * N + 12
    · have e3 : (r : Int) < 12 * (N : Int) + 12 := by omega
      have hL : r * (2 * N) ≤ 1728 := Nat.mul_le_mul (show r ≤ 108 by omega) (show 2 * N ≤ 16 by omega)
      go_wp2_with fail
      refine wp_loop (OrR2 l N gl (w.heap.size + 1) w.heap.size hs B1 r P x0.1 x0.2 w) (fun a' _ => N - (intOf (a'.tmps.getD 11 undef)).toNat) ?_ ?_
      · exact ⟨rfl, rfl, rfl, rfl, rfl, rfl, 0, v, rfl, rfl, Nat.zero_le _, by simpa [rAct] using HOwn.out, HK.out, HB.out, hz⟩
      · clear HK HB HOwn e1 e2 e3 hz
        rintro a' W2 ⟨hsz, hdf, s5, s6, s7, s10, i, v2, s11, s9, hi, hown, hK, hB, hz⟩
        obtain ⟨u, rfl, hu⟩ := frame147 hsz hdf
        rw [hu] at s5 s6 s7 s10 s11 s9
        simp only [s5, s6, s7, s10, s11, s9]
        clear hsz hdf s5 s6 s7 s10 s11 s9 hu
        have HK := Lib.hid hK
        have HB := Lib.hid hB
        clear hK hB
        by_cases hiN : i < N
        · have hL2 : (l ++ rActs N r ++ rAct i).length ≤ 4096 := by simp [rActs_len, rAct_len]; omega
          have hE := Lib.hid (show l ++ rActs N r ++ rAct (i + 1) = (l ++ rActs N r ++ rAct i) ++ [⟨0, i⟩, ⟨2, i⟩] by rw [rAct, ← List.append_assoc])
          generalize l ++ rActs N r ++ rAct i = la at *
          go_wp2_with (first | (at_builtin; refine wpList_append1 (.tmp 55) (.tmp 58) 22 34 _ 2 16 rfl rfl Try.underlying22 infoAc rfl (by decide) B1 _ _ _ _ _ _ _ _ hown rfl rfl ?cg60 rfl ?d160 ?d260 ?d360 ?d460 ?ck60; case' ck60 => intro v4 w4 hown4 hb4 _) | (at_builtin; refine wpList_append1 (.tmp 60) (.tmp 63) 22 34 _ 2 16 rfl rfl Try.underlying22 infoAc rfl (by decide) B1 _ _ _ _ _ _ _ _ hown4 rfl rfl ?cg65 rfl ?d165 ?d265 ?d365 ?d465 ?ck65; case' ck65 => intro v5 w5 hown5 hb5 _))
          case cg60 => first | rfl | simp
          case d160 => simp [Value.oneCell']
          case d260 => simp only [maxLen]; omega
          case d360 => omega
          try (case d460 => exact hz)
          case cg65 => first | rfl | simp
          case d165 => simp [Value.oneCell']
          case d265 => simp only [maxLen]; omega
          case d365 => omega
          try (case d465 => exact Nat.le_trans hz hb4.size)
          have hz4 := Nat.le_trans hz hb4.size
          have hb6 := hb4.trans hb5
          have hown6 : w5.ownsRow B1 34 2 v5 (l ++ rActs N r ++ rAct (i + 1)).length ((l ++ rActs N r ++ rAct (i + 1)).flatMap decAc) := by
            rw [hE.out]
            simpa [decAc] using hown5
          exact ⟨⟨rfl, rfl, rfl, rfl, rfl, rfl, i + 1, v5, rfl, rfl, hiN, hown6, HK.out.base hb6 (by omega) (by omega) (by omega) (by omega), HB.out.trans (hb6.mono (by omega)), Nat.le_trans hz4 hb5.size⟩, by simp [intOf]; omega⟩
        · obtain rfl : i = N := by omega
          have hown6 : W2.ownsRow B1 34 2 v2 (l ++ rActs i (r + 1)).length ((l ++ rActs i (r + 1)).flatMap decAc) := by
            rw [rActs, ← List.append_assoc]
            exact hown
          replace hown := Lib.hid hown
          replace hown6 := Lib.hid hown6
          go_wp2_with fail
          exact ⟨⟨rfl, rfl, rfl, rfl, rfl, r + 1, v2, rfl, rfl, hlt, hown6.out, HK.out, HB.out, hz⟩, by simp [intOf]; omega⟩
    · obtain rfl : r = 12 * N + 12 := by omega
      have hL2 : (l ++ rActs N (12 * N + 12)).length ≤ 2000 := by
        have : (12 * N + 12) * (2 * N) ≤ 1728 := Nat.mul_le_mul (show 12 * N + 12 ≤ 108 by omega) (show 2 * N ≤ 16 by omega)
        simp [rActs_len]; omega
      have hEnd : (∀ i, (spOf (OrX P ⟨x0.1, x0.2, [], []⟩ (l ++ rActs N (12 * N + 12))).sp i).pc = 0) ∧ (OrX P ⟨x0.1, x0.2, [], []⟩ (l ++ rActs N (12 * N + 12))).doors = (OrX P ⟨x0.1, x0.2, [], []⟩ (l ++ rActs N (12 * N + 12))).held := by
        obtain ⟨y, hy, h1, h2⟩ := ord_end (ord_fold l _ HOrd.out) ((fold_len P l _).1.trans HO.out.len) (12 * N + 12) (by omega)
        have e : OrX P ⟨x0.1, x0.2, [], []⟩ (l ++ rActs N (12 * N + 12)) = y := by
          unfold OrX
          rw [List.foldl_append]
          exact hy
        rw [e]
        exact ⟨h1, h2⟩
      have hDl : (OrX P ⟨x0.1, x0.2, [], []⟩ (l ++ rActs N (12 * N + 12))).doors.length ≤ 2000 := by
        have := (fold_len P (l ++ rActs N (12 * N + 12)) ⟨x0.1, x0.2, [], []⟩).2.1
        simp only [List.length_nil, Nat.zero_add] at this
        exact Nat.le_trans this hL2
      replace hEnd := Lib.hid hEnd
      replace hDl := Lib.hid hDl
      generalize l ++ rActs N (12 * N + 12) = all at *
      have e3 : ¬ (12 * (N : Int) + 12 < 12 * (N : Int) + 12) := by omega
      go_wp2_with fail
      have hXd : (⟨x0.1, x0.2, [], []⟩ : St).doors = [] ∧ (⟨x0.1, x0.2, [], []⟩ : St).held = [] := ⟨rfl, rfl⟩
      generalize hX0 : (⟨x0.1, x0.2, [], []⟩ : St) = X0 at *
      generalize hB3 : W.heap.size = B3 at *
      have hT0 : Tris W B1 B3 v (.slice none 0 0) (.slice none 0 0) all [] [] := ⟨HOwn.out, fun b hb => by have := (own_block HOwn.out hb).2; omega, World.ownsRow_nil _ _ _ _, World.ownsRow_nil _ _ _ _, fun b hb => (by cases hb), by omega, hz⟩
      refine wp_loop (OrJ all N gl (w.heap.size + 1) w.heap.size hs B1 B3 P X0 w) (fun a' _ => all.length - (intOf (a'.tmps.getD 14 undef)).toNat) ?_ ?_
      · subst hX0
        exact ⟨rfl, rfl, rfl, rfl, rfl, 0, _, v, .slice none 0 0, .slice none 0 0, rfl, rfl, rfl, rfl, Nat.zero_le _, rfl, HO.out, HK.out, hT0, HB.out⟩
      · clear HK HB HOwn hT0 HOrd HO hX0 e1 e2 e3 hz
        rintro a' W ⟨hsz, hdf, s5, s6, s7, k, x, va, vd, vh, s14, s9, s12, s13, hk, hx, hO, hK, hT, hB⟩
        obtain ⟨u, rfl, hu⟩ := frame147 hsz hdf
        rw [hu] at s5 s6 s7 s14 s9 s12 s13
        simp only [s5, s6, s7, s14, s9, s12, s13]
        clear hsz hdf s5 s6 s7 s14 s9 s12 s13 hu
        have hB31 := hT.2.2.2.2.2.2
        by_cases hlt : k < all.length
        · obtain ⟨b, off, cap2, rfl, c0, c1⟩ := hT.at_ hlt
          have hX : OrX P X0 (all.take (k + 1)) = ordS P x all[k] := by
            unfold OrX at hx ⊢
            rw [List.take_succ_eq_append_getElem hlt, List.foldl_append, hx]
            rfl
          have hbB := (own_block hT.1 (b := b) rfl).1
          rw [ordS_eq] at hX
          obtain ⟨σ, sp, doors, held⟩ := x
          generalize all[k] = c at *
          obtain ⟨kd, i⟩ := c
          simp only at c0 c1 hX hO hK hT
          have hNum := Lib.hid (hO.num (by omega))
          have hO2 := hO.act kd i
          have hSp := Spot_lk gl (w.heap.size + 1) w.heap.size hs P σ sp W hK i
          have hDo := do_lk gl (w.heap.size + 1) w.heap.size hs P σ sp
          have hdv : isDoor P ⟨σ, sp, doors, held⟩ ⟨kd, i⟩ = decide (kd = 0 ∧ 0 < (spOf sp i).pc ∧ (spOf sp i).pc < 10 ∧ σ.ops < (doP P σ sp kd i).2.1.ops ∧ (doP P σ sp kd i).2.1.kind = 3) := rfl
          have hhv : isHold P ⟨σ, sp, doors, held⟩ ⟨kd, i⟩ = decide ((spOf sp i).pc < 10 ∧ (spOf (doP P σ sp kd i).2.2 i).pc = 10) := rfl
          generalize isDoor P ⟨σ, sp, doors, held⟩ ⟨kd, i⟩ = db at *
          generalize isHold P ⟨σ, sp, doors, held⟩ ⟨kd, i⟩ = hb at *
          have hDo := fun W K => hDo W K hNum.out kd i
          generalize (doP P σ sp kd i).1 = ok at *
          generalize (doP P σ sp kd i).2.1 = σ2 at *
          generalize (doP P σ sp kd i).2.2 = sp2 at *
          generalize spOf sp i = was at *
          have HX := Lib.hid hX
          have HDv := Lib.hid hdv.symm
          have HHv := Lib.hid hhv.symm
          have HO2 := Lib.hid hO2
          have HDo := Lib.hid hDo
          have HSp := Lib.hid hSp
          have HK := Lib.hid hK
          have HT := Lib.hid hT
          have HB := Lib.hid hB
          have hx4 : (σ.ops : Int) ≤ 3000 := by have := hO.ops; omega
          have hx5 : (σ2.ops : Int) ≤ 3000 := by have := hO2.ops; omega
          have hfl := (fold_len P (all.take k) X0).2
          rw [show (all.take k).foldl (ordS P) X0 = _ from hx, hXd.1, hXd.2] at hfl
          simp only [List.length_nil, Nat.zero_add, List.length_take] at hfl
          have hdl : doors.length ≤ 2000 := by omega
          have hhl : held.length ≤ 2000 := by omega
          clear hfl
          have q1 := fun a b c d W => sfld0 a b c d W
          clear hX hdv hhv hO2 hDo hSp hK hT hB hO hx
          have HC := Lib.hid c1
          go_wp2_with fail
          refine HSp.out.mono ?_
          rintro e w3 ⟨rfl, hb3⟩
          have HK3 := Lib.hid (HK.out.same hb3)
          have HT3 := Lib.hid (HT.out.same hb3)
          have HB3 := Lib.hid (HB.out.trans (hb3.mono HB.out.size))
          have d0 := keep1 hb3 c0
          have d1 := keep1 hb3 c1
          clear hb3 c0 c1 HC HSp HK HT HB
          go_wp2_with fail
          refine (ops_any _ _ σ _ HK3.out.1).mono ?_
          rintro e wx ⟨rfl, hwx⟩
          obtain rfl := hwx.symm
          go_wp2_with fail
          refine (HDo.out _ HK3.out).mono ?_
          rintro e W6 ⟨rfl, h6, hm6⟩
          have HK6 := Lib.hid h6
          have HT6 := Lib.hid (HT3.out.mod hm6 (by have := hsz3; simp; omega))
          have HB6 := Lib.hid (HB3.out.trans (hm6.below HB3.out.size (by have := HG.out; simp; omega)))
          have d0 := keepM hm6 d0 (by simp; omega)
          clear h6 hm6 d1 HK3 HT3 HB3
          go_upto_region 25 with fail
          refine wp_cut (OrA N gl (w.heap.size + 1) w.heap.size hs B1 B3 P k i was.pc (.slice (some ⟨b, off, none⟩) all.length cap2) vd vh db all ⟨σ2, sp2, doors, held⟩ doors w) ?_ ?_
          · clear HK6 HT6 HB6 HDv HDo d0
            rintro a' W8 ⟨hsz, hdf, s5, s6, s7, s14, s9, s12, s13, s15, s16, s118, hK8, hT8, hB8⟩
            obtain ⟨u, rfl, hu⟩ := frame147 hsz hdf
            rw [hu] at s5 s6 s7 s14 s9 s12 s13 s15 s16 s118
            simp only [s5, s6, s7, s14, s9, s12, s13, s15, s16, s118]
            clear hsz hdf s5 s6 s7 s14 s9 s12 s13 s15 s16 s118 hu
            have HK8 := Lib.hid hK8
            have HT8 := Lib.hid hT8
            have HB8 := Lib.hid hB8
            clear hK8 hB8
            have hle := hT8.2.2.2.2.2.1
            have how := hT8.2.2.1
            clear hT8
            cases db
            · simp only [Bool.false_eq_true, if_false] at HX
              clear how hle
              (try go_upto_region 27 with fail)
              refine wp_cut (OrB N gl (w.heap.size + 1) w.heap.size hs B1 B3 P k i (.slice (some ⟨b, off, none⟩) all.length cap2) vd vh hb all ⟨σ2, sp2, doors, held⟩ doors w) ?_ ?_
              · clear HHv
                rintro a' W9 ⟨hsz, hdf, s5, s6, s7, s14, s9, s12, s13, s15, s131, hK9, hT9, hB9⟩
                obtain ⟨u, rfl, hu⟩ := frame147 hsz hdf
                rw [hu] at s5 s6 s7 s14 s9 s12 s13 s15 s131
                simp only [s5, s6, s7, s14, s9, s12, s13, s15, s131]
                clear hsz hdf s5 s6 s7 s14 s9 s12 s13 s15 s131 hu
                have HK9 := Lib.hid hK9
                have HT9 := Lib.hid hT9
                have HB9 := Lib.hid hB9
                clear hK9 hB9
                have hle := hT9.2.2.2.2.2.1
                have how := hT9.2.2.2.1
                clear hT9
                cases hb
                · go_wp2_with fail
                  exact ⟨⟨rfl, rfl, rfl, rfl, rfl, k + 1, _, _, vd, vh, rfl, rfl, rfl, rfl, hlt, HX.out, HO2.out, HK9.out, HT9.out, HB9.out⟩, by simp [intOf]; omega⟩
                · go_wp2_with (at_builtin; refine wpList_append1_at (.tmp 127) (.tmp 129) 36 3 _ 1 8 rfl rfl Try.underlying36 infoI rfl (by decide) B3 _ _ _ _ _ _ _ _ how rfl rfl ?cgh0 rfl ?d1h0 ?d2h0 ?d3h0 ?d4h0 ?ckh0; case' ckh0 => intro v8 w8 hown8 hg8 hn8)
                  case cgh0 => first | rfl | simp
                  case d1h0 => simp [Value.oneCell']
                  case d2h0 => simp only [maxLen]; omega
                  case d3h0 => omega
                  try (case d4h0 => exact hle)
                  obtain ⟨hT8, hm8, hS8⟩ := HT9.out.hold (i := i) hown8.out hg8.out hn8.out
                  have hK8 := HK9.out.mod hm8 (fun hx => by have := hS8 _ hx; omega) (fun hx => by have := hS8 _ hx; omega) (fun hx => by have := hS8 _ hx; omega) (fun hx => by have := hS8 _ hx; omega)
                  have hB8 := HB9.out.trans (hm8.below HB9.out.size (fun x hx => by have := hS8 _ hx; omega))
                  exact ⟨⟨rfl, rfl, rfl, rfl, rfl, k + 1, _, _, vd, v8, rfl, rfl, rfl, rfl, hlt, HX.out, HO2.out, hK8, hT8, hB8⟩, by simp [intOf]; omega⟩
              · intro J K' hJ hK'
                by_cases hp : was.pc < 10
                · have HSq := Spot_lk gl (w.heap.size + 1) w.heap.size hs P σ2 sp2 W8 HK8.out i
                  generalize spOf sp2 i = sq at *
                  obtain ⟨yp, ya, yb, yc⟩ := sq
                  replace HSq := Lib.hid HSq
                  have q1 := fun a b c d W => sfld0 a b c d W
                  by_cases hy : yp = 10
                  · have e9 := ibeq hy
                    have HV := Lib.hid (show Value.bool true = Value.bool hb from congrArg Value.bool ((decide_eq_true (p := was.pc < 10 ∧ yp = 10) ⟨hp, hy⟩).symm.trans HHv.out))
                    clear hy
                    go_wp2_with fail
                    refine HSq.out.mono ?_
                    rintro e w9 ⟨rfl, hb9⟩
                    have HF := Lib.hid (And.intro (HK8.out.same hb9) (And.intro (HT8.out.same hb9) (HB8.out.trans (hb9.mono HB8.out.size))))
                    clear hb9
                    go_wp2_with fail
                    exact Met.intro (hJ _ _ ⟨rfl, rfl, rfl, rfl, rfl, rfl, rfl, rfl, rfl, rfl, HV.out, HF.out⟩)
                  · have e9 := ibeq_no hy
                    have HV := Lib.hid (show Value.bool false = Value.bool hb from congrArg Value.bool ((decide_eq_false (p := was.pc < 10 ∧ yp = 10) (fun h => hy h.2)).symm.trans HHv.out))
                    clear hy
                    go_wp2_with fail
                    refine HSq.out.mono ?_
                    rintro e w9 ⟨rfl, hb9⟩
                    have HF := Lib.hid (And.intro (HK8.out.same hb9) (And.intro (HT8.out.same hb9) (HB8.out.trans (hb9.mono HB8.out.size))))
                    clear hb9
                    go_wp2_with fail
                    exact Met.intro (hJ _ _ ⟨rfl, rfl, rfl, rfl, rfl, rfl, rfl, rfl, rfl, rfl, HV.out, HF.out⟩)
                · have hp2 : 10 ≤ was.pc := by omega
                  have HV := Lib.hid (show Value.bool false = Value.bool hb by rw [← HHv.out, decide_eq_false (fun h => hp h.1)])
                  have HF := Lib.hid (And.intro HK8.out (And.intro HT8.out HB8.out))
                  clear hp
                  go_wp2_with fail
                  exact Met.intro (hJ _ _ ⟨rfl, rfl, rfl, rfl, rfl, rfl, rfl, rfl, rfl, rfl, HV.out, HF.out⟩)
            · simp only [if_true] at HX
              go_upto_region 27 with (at_builtin; refine wpList_append1_at (.tmp 114) (.tmp 116) 36 3 _ 1 8 rfl rfl Try.underlying36 infoI rfl (by decide) B3 _ _ _ _ _ _ _ _ how rfl rfl ?cg119 rfl ?d1119 ?d2119 ?d3119 ?d4119 ?ck119; case' ck119 => intro v7 w7 hown7 hg7 hn7)
              case cg119 => first | rfl | simp
              case d1119 => simp [Value.oneCell']
              case d2119 => simp only [maxLen]; omega
              case d3119 => omega
              try (case d4119 => exact hle)
              obtain ⟨hT7, hm7, hS7⟩ := HT8.out.door (i := i) hown7.out hg7.out hn7.out
              have hK7 := HK8.out.mod hm7 (fun hx => by have := hS7 _ hx; omega) (fun hx => by have := hS7 _ hx; omega) (fun hx => by have := hS7 _ hx; omega) (fun hx => by have := hS7 _ hx; omega)
              have hB7 := HB8.out.trans (hm7.below HB8.out.size (fun x hx => by have := hS7 _ hx; omega))
              have hdl : doors.length + 1 ≤ 2001 := by omega
              clear HK8 HT8 HB8 how hle
              have HK8 := Lib.hid hK7
              have HT8 := Lib.hid hT7
              have HB8 := Lib.hid hB7
              clear hK7 hT7 hB7 hown7 hg7 hn7 hm7 hS7
              generalize w7 = W8 at *
              (try go_upto_region 27 with fail)
              refine wp_cut (OrB N gl (w.heap.size + 1) w.heap.size hs B1 B3 P k i (.slice (some ⟨b, off, none⟩) all.length cap2) v7 vh hb all ⟨σ2, sp2, (doors ++ [i]), held⟩ (doors ++ [i]) w) ?_ ?_
              · clear HHv
                rintro a' W9 ⟨hsz, hdf, s5, s6, s7, s14, s9, s12, s13, s15, s131, hK9, hT9, hB9⟩
                obtain ⟨u, rfl, hu⟩ := frame147 hsz hdf
                rw [hu] at s5 s6 s7 s14 s9 s12 s13 s15 s131
                simp only [s5, s6, s7, s14, s9, s12, s13, s15, s131]
                clear hsz hdf s5 s6 s7 s14 s9 s12 s13 s15 s131 hu
                have HK9 := Lib.hid hK9
                have HT9 := Lib.hid hT9
                have HB9 := Lib.hid hB9
                clear hK9 hB9
                have hle := hT9.2.2.2.2.2.1
                have how := hT9.2.2.2.1
                clear hT9
                cases hb
                · go_wp2_with fail
                  exact ⟨⟨rfl, rfl, rfl, rfl, rfl, k + 1, _, _, v7, vh, rfl, rfl, rfl, rfl, hlt, HX.out, HO2.out, HK9.out, HT9.out, HB9.out⟩, by simp [intOf]; omega⟩
                · go_wp2_with (at_builtin; refine wpList_append1_at (.tmp 127) (.tmp 129) 36 3 _ 1 8 rfl rfl Try.underlying36 infoI rfl (by decide) B3 _ _ _ _ _ _ _ _ how rfl rfl ?cgh1 rfl ?d1h1 ?d2h1 ?d3h1 ?d4h1 ?ckh1; case' ckh1 => intro v8 w8 hown8 hg8 hn8)
                  case cgh1 => first | rfl | simp
                  case d1h1 => simp [Value.oneCell']
                  case d2h1 => simp only [maxLen]; omega
                  case d3h1 => omega
                  try (case d4h1 => exact hle)
                  obtain ⟨hT8, hm8, hS8⟩ := HT9.out.hold (i := i) hown8.out hg8.out hn8.out
                  have hK8 := HK9.out.mod hm8 (fun hx => by have := hS8 _ hx; omega) (fun hx => by have := hS8 _ hx; omega) (fun hx => by have := hS8 _ hx; omega) (fun hx => by have := hS8 _ hx; omega)
                  have hB8 := HB9.out.trans (hm8.below HB9.out.size (fun x hx => by have := hS8 _ hx; omega))
                  exact ⟨⟨rfl, rfl, rfl, rfl, rfl, k + 1, _, _, v7, v8, rfl, rfl, rfl, rfl, hlt, HX.out, HO2.out, hK8, hT8, hB8⟩, by simp [intOf]; omega⟩
              · intro J K' hJ hK'
                by_cases hp : was.pc < 10
                · have HSq := Spot_lk gl (w.heap.size + 1) w.heap.size hs P σ2 sp2 W8 HK8.out i
                  generalize spOf sp2 i = sq at *
                  obtain ⟨yp, ya, yb, yc⟩ := sq
                  replace HSq := Lib.hid HSq
                  have q1 := fun a b c d W => sfld0 a b c d W
                  by_cases hy : yp = 10
                  · have e9 := ibeq hy
                    have HV := Lib.hid (show Value.bool true = Value.bool hb from congrArg Value.bool ((decide_eq_true (p := was.pc < 10 ∧ yp = 10) ⟨hp, hy⟩).symm.trans HHv.out))
                    clear hy
                    go_wp2_with fail
                    refine HSq.out.mono ?_
                    rintro e w9 ⟨rfl, hb9⟩
                    have HF := Lib.hid (And.intro (HK8.out.same hb9) (And.intro (HT8.out.same hb9) (HB8.out.trans (hb9.mono HB8.out.size))))
                    clear hb9
                    go_wp2_with fail
                    exact Met.intro (hJ _ _ ⟨rfl, rfl, rfl, rfl, rfl, rfl, rfl, rfl, rfl, rfl, HV.out, HF.out⟩)
                  · have e9 := ibeq_no hy
                    have HV := Lib.hid (show Value.bool false = Value.bool hb from congrArg Value.bool ((decide_eq_false (p := was.pc < 10 ∧ yp = 10) (fun h => hy h.2)).symm.trans HHv.out))
                    clear hy
                    go_wp2_with fail
                    refine HSq.out.mono ?_
                    rintro e w9 ⟨rfl, hb9⟩
                    have HF := Lib.hid (And.intro (HK8.out.same hb9) (And.intro (HT8.out.same hb9) (HB8.out.trans (hb9.mono HB8.out.size))))
                    clear hb9
                    go_wp2_with fail
                    exact Met.intro (hJ _ _ ⟨rfl, rfl, rfl, rfl, rfl, rfl, rfl, rfl, rfl, rfl, HV.out, HF.out⟩)
                · have hp2 : 10 ≤ was.pc := by omega
                  have HV := Lib.hid (show Value.bool false = Value.bool hb by rw [← HHv.out, decide_eq_false (fun h => hp h.1)])
                  have HF := Lib.hid (And.intro HK8.out (And.intro HT8.out HB8.out))
                  clear hp
                  go_wp2_with fail
                  exact Met.intro (hJ _ _ ⟨rfl, rfl, rfl, rfl, rfl, rfl, rfl, rfl, rfl, rfl, HV.out, HF.out⟩)
          · intro J K' hJ hK'
            by_cases k0 : kd = 0
            · have e0 := ibeq k0
              by_cases p0 : 0 < was.pc
              · by_cases p1 : was.pc < 10
                · by_cases o1 : σ.ops < σ2.ops
                  · have o2 : (σ.ops : Int) < (σ2.ops : Int) := by omega
                    by_cases kk : σ2.kind = 3
                    · have e1 := ibeq kk
                      have q2 := fun a b c W => opfld0 a b c W
                      have HV := Lib.hid (show Value.bool true = Value.bool db by rw [← HDv.out]; exact congrArg Value.bool ((decide_eq_true ⟨k0, p0, p1, o1, kk⟩).symm))
                      go_wp2_with fail
                      refine (ops_any _ _ σ2 _ HK6.out.1).mono ?_
                      rintro e wx ⟨rfl, hwx⟩
                      obtain rfl := hwx.symm
                      go_wp2_with fail
                      refine (last_any _ _ σ2 _ HK6.out.1).mono ?_
                      rintro e w7 ⟨rfl, hb7⟩
                      have HF := Lib.hid (And.intro (HK6.out.same hb7) (And.intro (HT6.out.same hb7) (HB6.out.trans (hb7.mono HB6.out.size))))
                      clear hb7
                      go_wp2_with fail
                      exact Met.intro (hJ _ _ ⟨rfl, rfl, rfl, rfl, rfl, rfl, rfl, rfl, rfl, rfl, rfl, HV.out, HF.out⟩)
                    · have e1 := ibeq_no kk
                      have q2 := fun a b c W => opfld0 a b c W
                      have HV := Lib.hid (show Value.bool false = Value.bool db by rw [← HDv.out]; exact congrArg Value.bool ((decide_eq_false (fun h => kk h.2.2.2.2)).symm))
                      go_wp2_with fail
                      refine (ops_any _ _ σ2 _ HK6.out.1).mono ?_
                      rintro e wx ⟨rfl, hwx⟩
                      obtain rfl := hwx.symm
                      go_wp2_with fail
                      refine (last_any _ _ σ2 _ HK6.out.1).mono ?_
                      rintro e w7 ⟨rfl, hb7⟩
                      have HF := Lib.hid (And.intro (HK6.out.same hb7) (And.intro (HT6.out.same hb7) (HB6.out.trans (hb7.mono HB6.out.size))))
                      clear hb7
                      go_wp2_with fail
                      exact Met.intro (hJ _ _ ⟨rfl, rfl, rfl, rfl, rfl, rfl, rfl, rfl, rfl, rfl, rfl, HV.out, HF.out⟩)
                  · have o2 : (σ2.ops : Int) ≤ (σ.ops : Int) := by omega
                    have HV := Lib.hid (show Value.bool false = Value.bool db by rw [← HDv.out]; exact congrArg Value.bool (decide_eq_false (fun h => o1 h.2.2.2.1)).symm)
                    have HF := Lib.hid (And.intro HK6.out (And.intro HT6.out HB6.out))
                    go_wp2_with fail
                    refine (ops_any _ _ σ2 _ HK6.out.1).mono ?_
                    rintro e wx ⟨rfl, hwx⟩
                    obtain rfl := hwx.symm
                    go_wp2_with fail
                    exact Met.intro (hJ _ _ ⟨rfl, rfl, rfl, rfl, rfl, rfl, rfl, rfl, rfl, rfl, rfl, HV.out, HF.out⟩)
                · have p2 : 10 ≤ was.pc := by omega
                  have HV := Lib.hid (show Value.bool false = Value.bool db by rw [← HDv.out]; exact congrArg Value.bool (decide_eq_false (fun h => p1 h.2.2.1)).symm)
                  have HF := Lib.hid (And.intro HK6.out (And.intro HT6.out HB6.out))
                  go_wp2_with fail
                  exact Met.intro (hJ _ _ ⟨rfl, rfl, rfl, rfl, rfl, rfl, rfl, rfl, rfl, rfl, rfl, HV.out, HF.out⟩)
              · have p2 : was.pc ≤ 0 := by omega
                have HV := Lib.hid (show Value.bool false = Value.bool db by rw [← HDv.out]; exact congrArg Value.bool (decide_eq_false (fun h => p0 h.2.1)).symm)
                have HF := Lib.hid (And.intro HK6.out (And.intro HT6.out HB6.out))
                go_wp2_with fail
                exact Met.intro (hJ _ _ ⟨rfl, rfl, rfl, rfl, rfl, rfl, rfl, rfl, rfl, rfl, rfl, HV.out, HF.out⟩)
            · have e0 := ibeq_no k0
              have HV := Lib.hid (show Value.bool false = Value.bool db by rw [← HDv.out]; exact congrArg Value.bool (decide_eq_false (fun h => k0 h.1)).symm)
              have HF := Lib.hid (And.intro HK6.out (And.intro HT6.out HB6.out))
              go_wp2_with fail
              exact Met.intro (hJ _ _ ⟨rfl, rfl, rfl, rfl, rfl, rfl, rfl, rfl, rfl, rfl, rfl, HV.out, HF.out⟩)
        · obtain rfl : k = all.length := by omega
          rw [List.take_length] at hx
          have hE := hEnd.out
          have hD := hDl.out
          rw [hx] at hE hD
          obtain ⟨σ, sp, doors, held⟩ := x
          simp only at hE hD hO hK hT
          obtain ⟨hE1, hE2⟩ := hE
          subst hE2
          obtain ⟨Aa, ca, rfl, _⟩ := own_slice hT.1
          have HE1 := Lib.hid hE1
          have HK := Lib.hid hK
          have HT := Lib.hid hT
          have HB := Lib.hid hB
          clear hE1 hK hT hB hO hx hEnd hDl hlt
          go_wp2_with fail
          refine wp_loop (OrE N gl (w.heap.size + 1) w.heap.size hs P (.slice Aa all.length ca) vd vh B1 B3 all ⟨σ, sp, doors, doors⟩ w) (fun a' _ => N - (intOf (a'.tmps.getD 18 undef)).toNat) ?_ ?_
          · exact ⟨rfl, rfl, rfl, rfl, rfl, rfl, 0, rfl, Nat.zero_le _, HK.out, HT.out, HB.out⟩
          · clear HK HT HB
            rintro a' W ⟨hsz, hdf, s5, s7, s12, s13, j, s18, hj, hK, hT, hB⟩
            obtain ⟨u, rfl, hu⟩ := frame147 hsz hdf
            rw [hu] at s5 s7 s12 s13 s18
            simp only [s5, s7, s12, s13, s18]
            clear hsz hdf s5 s7 s12 s13 s18 hu
            simp only at hK hT
            have HK := Lib.hid hK
            have HT := Lib.hid hT
            have HB := Lib.hid hB
            clear hK hB
            by_cases hjN : j < N
            · have HSp := Spot_lk gl (w.heap.size + 1) w.heap.size hs P σ sp W HK.out (j : Int)
              have hp := HE1.out (j : Int)
              generalize spOf sp (j : Int) = s at *
              obtain ⟨yp, ya, yb, yc⟩ := s
              simp only at hp
              subst hp
              replace HSp := Lib.hid HSp
              have q1 := fun a b c d W => sfld0 a b c d W
              clear hT
              go_wp2_with fail
              refine HSp.out.mono ?_
              rintro e w3 ⟨rfl, hb3⟩
              have HF := Lib.hid (And.intro (HK.out.same hb3) (And.intro (HT.out.same hb3) (HB.out.trans (hb3.mono HB.out.size))))
              clear hb3
              go_wp2_with fail
              exact ⟨⟨rfl, rfl, rfl, rfl, rfl, rfl, j + 1, rfl, hjN, HF.out⟩, by simp [intOf]; omega⟩
            · obtain rfl : j = N := by omega
              obtain ⟨Ad, cd, rfl, _, _, hsd⟩ := own_slice hT.2.2.1
              obtain ⟨Ah, ch, rfl, _, _, hsh⟩ := own_slice hT.2.2.2.1
              have HS := Lib.hid (same_tt doors Ad Ah cd ch doors.length W rfl (by omega) (by rw [flatI]; exact hsd) (by rw [flatI]; exact hsh))
              clear hsd hsh hT
              go_wp2_with fail
              refine HS.out.mono ?_
              rintro e w4 ⟨rfl, hb4⟩
              go_wp2_with fail
              refine (awake_lk _).mono ?_
              rintro e w5 ⟨rfl, hb5⟩
              go_wp2_with fail
              go_ret
              exact ⟨rfl, HB.out.trans ((hb4.mono HB.out.size).trans (hb5.mono (Nat.le_trans HB.out.size hb4.size)))⟩

end Go.Proofs.Ythffhhgaeolpgaa.Mc
