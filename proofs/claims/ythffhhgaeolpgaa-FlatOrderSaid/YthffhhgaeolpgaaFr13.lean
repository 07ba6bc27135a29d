/- Merged texts: FlO3, LokX, Fl8. -/
import Derived.Test.YthffhhgaeolpgaaFr12
import Derived.Laws.AppendOwnNone
import Derived.Deep.Cut
import Derived.Deep.CutBlock
/- Locks of any kind: behind the rounds all rest, and slots have held in the order of their doorways: the plain law. -/
namespace Go.Proofs.Ythffhhgaeolpgaa.Fl
open Go.RowKit Go.Proofs.Ythffhhgaeolpgaa.Ara Go.Proofs.Ythffhhgaeolpgaa.Lok

structure GoodT (P : Ta.Par) (n : Nat) (x : StK) : Prop where
  inv : Ta.Inv P x.σ x.sp
  m : Ta.InvM P x.sp
  m4 : P.most ≤ 4
  len : x.sp.length = n
theorem GoodT.act {P : Ta.Par} {n : Nat} {x : StK} (h : GoodT P n x) (c : Ac) : GoodT P n (ordK (.tas P) x c) :=
  ⟨Ta.do_inv h.inv c.kind c.i, Ta.invM_do h.inv h.m c.kind c.i, h.m4, (Ta.do_len P x.σ x.sp c.kind c.i).trans h.len⟩
section
variable {P : Ta.Par} {n : Nat} {x : StK} (h : GoodT P n x)
include h
theorem pair_V {k : Nat} (hk : k < n) : Ta.ActV x.sp (ordK (.tas P) (ordK (.tas P) x ⟨0, k⟩) ⟨2, k⟩).sp k ∧ (Ta.holds (spOf x.sp (k : Int)) → Ta.V (ordK (.tas P) (ordK (.tas P) x ⟨0, k⟩) ⟨2, k⟩).sp < Ta.V x.sp) ∧
    ((spOf x.sp (k : Int)).pc = 1 → Ta.NoH x.sp → Ta.V (ordK (.tas P) (ordK (.tas P) x ⟨0, k⟩) ⟨2, k⟩).sp < Ta.V x.sp) ∧
    ((spOf x.sp (k : Int)).pc = 2 → spOf (ordK (.tas P) (ordK (.tas P) x ⟨0, k⟩) ⟨2, k⟩).sp (k : Int) = ⟨if (spOf x.sp (k : Int)).b - 1 = 0 then 1 else 2, (spOf x.sp (k : Int)).a, (spOf x.sp (k : Int)).b - 1, (spOf x.sp (k : Int)).c⟩) := by
  have hk1 : k < x.sp.length := by rw [h.len]; exact hk
  obtain ⟨a1, a2, a3, a4, a5⟩ := Ta.step_V h.inv hk1
  have h2 := h.act ⟨0, k⟩
  have e1 : (ordK (.tas P) x ⟨0, k⟩).sp = (Ta.stepP P x.σ x.sp (k : Int)).2.2 := rfl
  have e2 : (ordK (.tas P) (ordK (.tas P) x ⟨0, k⟩) ⟨2, k⟩).sp = turnS (ordK (.tas P) x ⟨0, k⟩).sp (k : Int) 10 11 := rfl
  have hk2 : k < (ordK (.tas P) x ⟨0, k⟩).sp.length := by rw [h2.len]; exact hk
  obtain ⟨b1, b2⟩ := Ta.leave_V h2.inv hk2
  rw [e2]
  rw [← e1] at a1 a2 a3 a4 a5
  generalize (ordK (.tas P) x ⟨0, k⟩).sp = y at *
  refine ⟨⟨Nat.le_trans b1.le a1.le, Nat.le_trans b1.w a1.w, fun j hj => (b1.keep j hj).trans (a1.keep j hj), fun hn e => ?_⟩, fun hh => ?_, fun p hn => Nat.lt_of_le_of_lt b1.le (a4 p hn), fun p => ?_⟩
  · have l1 := a1.le
    have l2 := b1.le
    exact b1.noh (a1.noh hn (by omega)) (by omega)
  · rcases hh with p | p
    · have e := a3 p
      rw [e] at b2 ⊢
      exact b2 p
    · exact Nat.lt_of_le_of_lt b1.le (a2 p)
  · have e := a5 p
    have hno : turnB y (k : Int) 10 = false := by
      rw [turn_in hk2, ← spOf_in hk2, e]
      simp only [beq_eq_false_iff_ne]
      split <;> omega
    rw [turn_no 11 hno]
    exact e
theorem round_goodT (k : Nat) : GoodT P n (round (ordK (.tas P)) x k) := by
  induction k with
  | zero => exact h
  | succ k ih => exact (ih.act _).act _
/-- From one slot to another. -/
theorem round_V (k m : Nat) (hkm : k ≤ m) (hm : m ≤ n) : Ta.V (round (ordK (.tas P)) x m).sp ≤ Ta.V (round (ordK (.tas P)) x k).sp ∧ wts Ta.wW (round (ordK (.tas P)) x m).sp ≤ wts Ta.wW (round (ordK (.tas P)) x k).sp ∧
    (∀ j : Int, j < k ∨ (m : Int) ≤ j → spOf (round (ordK (.tas P)) x m).sp j = spOf (round (ordK (.tas P)) x k).sp j) ∧
    (Ta.NoH (round (ordK (.tas P)) x k).sp → Ta.V (round (ordK (.tas P)) x m).sp = Ta.V (round (ordK (.tas P)) x k).sp → Ta.NoH (round (ordK (.tas P)) x m).sp) := by
  induction m with
  | zero =>
    obtain rfl : k = 0 := by omega
    exact ⟨Nat.le_refl _, Nat.le_refl _, fun _ _ => rfl, fun h _ => h⟩
  | succ m ih =>
    by_cases e : k = m + 1
    · subst e
      exact ⟨Nat.le_refl _, Nat.le_refl _, fun _ _ => rfl, fun h _ => h⟩
    · obtain ⟨i1, i2, i3, i4⟩ := ih (by omega) (by omega)
      obtain ⟨p1, _⟩ := pair_V (round_goodT h m) (show m < n by omega)
      have l := p1.le
      refine ⟨Nat.le_trans p1.le i1, Nat.le_trans p1.w i2, fun j hj => (p1.keep j (by omega)).trans (i3 j (by omega)), fun hn ev => ?_⟩
      have ev' : Ta.V (ordK (.tas P) (ordK (.tas P) (round (ordK (.tas P)) x m) ⟨0, m⟩) ⟨2, m⟩).sp = Ta.V (round (ordK (.tas P)) x k).sp := ev
      exact p1.noh (i4 hn (by omega)) (by omega)
theorem round_less_T (hV : 0 < Ta.V x.sp) : Ta.V (round (ordK (.tas P)) x n).sp < Ta.V x.sp := by
  rcases Nat.lt_or_ge (Ta.V (round (ordK (.tas P)) x n).sp) (Ta.V x.sp) with hlt | hge
  · exact hlt
  exfalso
  have all : ∀ k, k ≤ n → Ta.V (round (ordK (.tas P)) x k).sp = Ta.V x.sp := fun k hk => by
    have h1 := (round_V h 0 k (Nat.zero_le _) hk).1
    have h2 := (round_V h k n hk (Nat.le_refl _)).1
    have e0 : round (ordK (.tas P)) x 0 = x := rfl
    rw [e0] at h1
    omega
  have step : ∀ k, k < n → Ta.V (ordK (.tas P) (ordK (.tas P) (round (ordK (.tas P)) x k) ⟨0, k⟩) ⟨2, k⟩).sp = Ta.V (round (ordK (.tas P)) x k).sp := fun k hk => (all (k + 1) hk).trans (all k (by omega)).symm
  have kept : ∀ k : Nat, k < n → spOf (round (ordK (.tas P)) x k).sp (k : Int) = spOf x.sp (k : Int) := fun k hk => (round_V h 0 k (Nat.zero_le _) (by omega)).2.2.1 (k : Int) (.inr (Int.le_refl _))
  by_cases hn : Ta.NoH x.sp
  · have hnk : ∀ k, k ≤ n → Ta.NoH (round (ordK (.tas P)) x k).sp := fun k hk => (round_V h 0 k (Nat.zero_le _) hk).2.2.2 hn (all k hk)
    obtain ⟨n1, n2⟩ := Ta.noH_wts hn
    have hW : 0 < wts Ta.wW x.sp := by
      unfold Ta.V at hV
      rw [if_neg (by omega), if_neg (by omega)] at hV
      split at hV
      · omega
      · omega
    obtain ⟨j, j1, j2⟩ := Ta.wW_pos.1 hW
    by_cases h1 : ∃ k : Nat, k < n ∧ (spOf x.sp (k : Int)).pc = 1
    · obtain ⟨k, k1, k2⟩ := h1
      have := (pair_V (round_goodT h k) k1).2.2.1 (by rw [kept k k1]; exact k2) (hnk k (by omega))
      rw [step k k1] at this
      exact Nat.lt_irrefl _ this
    · have h4 : ∀ (k : Nat) (hk : k < x.sp.length), Ta.wt1 x.sp[k] = true → x.sp[k].pc = 2 ∧ 1 ≤ x.sp[k].b ∧ x.sp[k].b ≤ 4 := fun k hk hw => by
        have e := spOf_in hk
        have p2 : x.sp[k].pc = 2 := by
          rcases (Ta.wt1_iff _).1 hw with p | p
          · exact absurd ⟨k, by rw [← h.len]; exact hk, by rw [e]; exact p⟩ h1
          · exact p
        have b1 := h.inv.w2 (k : Int) (by rw [e]; exact p2)
        have b2 := (h.m (k : Int)).2
        have := h.m4
        rw [e] at b1 b2
        exact ⟨p2, b1, by omega⟩
      have hj := spOf_in j1
      rw [hj] at j2
      have hwj := (Ta.wt1_iff _).2 j2
      obtain ⟨q, q1, q2, q3⟩ := Ta.minR_at x.sp ⟨j, j1, hwj, by
        obtain ⟨a, b, c⟩ := h4 j j1 hwj
        unfold Ta.left
        rw [if_pos a]
        omega⟩
      obtain ⟨a, b, c⟩ := h4 q q1 q2
      have hqn : q < n := by rw [← h.len]; exact q1
      have hq := spOf_in q1
      have hd := (pair_V (round_goodT h q) hqn).2.2.2 (by rw [kept q hqn, hq]; exact a)
      rw [kept q hqn, hq] at hd
      have hend : spOf (round (ordK (.tas P)) x n).sp (q : Int) = _ := ((round_V h (q + 1) n (by omega) (Nat.le_refl _)).2.2.1 (q : Int) (.inl (by omega))).trans hd
      have hgn := round_goodT h n
      have hql : q < (round (ordK (.tas P)) x n).sp.length := by rw [hgn.len]; exact hqn
      rw [spOf_in hql] at hend
      obtain ⟨r, hr⟩ : ∃ r : Int, (if x.sp[q].b - 1 = 0 then 1 else 2) = r := ⟨_, rfl⟩
      have hr2 : r = 1 ∨ r = 2 := by rw [← hr]; split <;> omega
      rw [hr] at hend
      have hw : Ta.wt1 (round (ordK (.tas P)) x n).sp[q] = true := by rw [hend]; exact (Ta.wt1_iff _).2 hr2
      have hmin := Ta.minR_le _ q hql hw
      rw [hend] at hmin
      have hl : Ta.left ⟨r, x.sp[q].a, x.sp[q].b - 1, x.sp[q].c⟩ + 1 ≤ Ta.left x.sp[q] := by
        show (if r = 2 then (x.sp[q].b - 1).toNat else 0) + 1 ≤ (if x.sp[q].pc = 2 then x.sp[q].b.toNat else 0)
        rw [if_pos a]
        split <;> omega
      have hWn := (round_V h 0 n (Nat.zero_le _) (Nat.le_refl _)).2.1
      have e0 : round (ordK (.tas P)) x 0 = x := rfl
      rw [e0] at hWn
      obtain ⟨m1, m2⟩ := Ta.noH_wts (hnk n (Nat.le_refl _))
      have hWp : 0 < wts Ta.wW (round (ordK (.tas P)) x n).sp := Ta.wW_pos.2 ⟨q, hql, by rw [spOf_in hql, hend]; exact hr2⟩
      have ev := all n (Nat.le_refl _)
      unfold Ta.V at ev
      rw [if_neg (by omega), if_neg (by omega), if_neg (by omega), if_neg (by omega), if_neg (by omega), if_neg (by omega)] at ev
      omega
  · obtain ⟨i, hi⟩ : ∃ i, Ta.holds (spOf x.sp i) := by
      by_cases hex : ∃ i, Ta.holds (spOf x.sp i)
      · exact hex
      · exact absurd (fun i hi => hex ⟨i, hi⟩) hn
    obtain ⟨i0, i1⟩ := Ta.holds_range hi
    obtain ⟨k, rfl⟩ := Int.eq_ofNat_of_zero_le i0
    have hk : k < n := by rw [← h.len]; omega
    have := (pair_V (round_goodT h k) hk).2.1 (by rw [kept k hk]; exact hi)
    rw [step k hk] at this
    exact Nat.lt_irrefl _ this
end
theorem rounds_goodT {P : Ta.Par} {n : Nat} {x : StK} (h : GoodT P n x) (r : Nat) : GoodT P n (rounds (ordK (.tas P)) n x r) := by
  induction r with
  | zero => exact h
  | succ r ih => exact round_goodT ih n
theorem rounds_T {P : Ta.Par} {n : Nat} {x : StK} (h : GoodT P n x) (r : Nat) : Ta.V (rounds (ordK (.tas P)) n x r).sp + r ≤ Ta.V x.sp ∨ Ta.V (rounds (ordK (.tas P)) n x r).sp = 0 := by
  induction r with
  | zero => exact .inl (Nat.le_refl _)
  | succ r ih =>
    have g := rounds_goodT h r
    have hle := (round_V g 0 n (Nat.zero_le _) (Nat.le_refl _)).1
    have e0 : round (ordK (.tas P)) (rounds (ordK (.tas P)) n x r) 0 = rounds (ordK (.tas P)) n x r := rfl
    rw [e0] at hle
    show Ta.V (round (ordK (.tas P)) (rounds (ordK (.tas P)) n x r) n).sp + (r + 1) ≤ _ ∨ Ta.V (round (ordK (.tas P)) (rounds (ordK (.tas P)) n x r) n).sp = 0
    rcases Nat.eq_zero_or_pos (Ta.V (rounds (ordK (.tas P)) n x r).sp) with z | z
    · right; omega
    · have := round_less_T g z
      rcases ih with ih | ih
      · left; omega
      · omega
theorem V_le (sp : List Sp) : Ta.V sp ≤ 7 * sp.length + 6 := by
  have h1 := wts_le Ta.wW 1 (fun p => by unfold Ta.wW; split <;> omega) sp
  have h2 := Ta.minR_le4 sp
  unfold Ta.V
  repeat (first | split | omega)
theorem V_zero {P : Ta.Par} {σ : Ar} {sp : List Sp} (h : Ta.Inv P σ sp) (hV : Ta.V sp = 0) (i : Int) : (spOf sp i).pc = 0 := by
  have hW : wts Ta.wW sp = 0 := by unfold Ta.V at hV; omega
  have hno : ¬ 0 < wts (Ta.wH 10) sp ∧ ¬ 0 < wts (Ta.wH 11) sp := by
    unfold Ta.V at hV
    constructor
    · intro c; rw [if_pos c] at hV; omega
    · intro c
      by_cases d : 0 < wts (Ta.wH 10) sp
      · rw [if_pos d] at hV; omega
      · rw [if_neg d, if_pos c] at hV; omega
  rcases h.pcs i with p | p | p | p
  · exact p
  all_goals
    exfalso
    obtain ⟨i0, i1⟩ := spOf_range (sp := sp) (i := i) (by first | omega | (unfold Ta.holds at p; omega))
    obtain ⟨k, rfl⟩ := Int.eq_ofNat_of_zero_le i0
  · have := Ta.wW_pos.2 ⟨k, by omega, .inl p⟩; omega
  · have := Ta.wW_pos.2 ⟨k, by omega, .inr p⟩; omega
  · rcases p with p | p
    · exact hno.1 (Ta.wH_pos.2 ⟨k, by omega, p⟩)
    · exact hno.2 (Ta.wH_pos.2 ⟨k, by omega, p⟩)
/-- How all stands at first. -/
def StartK (p : PK) (n : Nat) (σ : Ar) (sp : List Sp) : Prop :=
  match p with
  | .tas P => GoodT P n ⟨σ, sp, [], []⟩
  | .tic P => Tk.OrdP P ⟨σ, sp, [], []⟩ ∧ sp.length = n
  | .par P => Pt.OrdP P ⟨σ, sp, [], []⟩ ∧ sp.length = n
  | .mcs P => Mc.OrdP P ⟨σ, sp, [], []⟩ ∧ sp.length = n
  | .clh P => Cl.OrdP P ⟨σ, sp, [], []⟩ ∧ sp.length = n
theorem doors_T (P : Ta.Par) (l : List Ac) : ∀ (x : StK), (l.foldl (ordK (.tas P)) x).doors = x.doors := by
  induction l with
  | nil => exact fun _ => rfl
  | cons c l ih =>
    intro x
    rw [List.foldl_cons, ih]
    show (if isDoorK (.tas P) x c = true then x.doors ++ [c.i] else x.doors) = x.doors
    rw [if_neg]
    unfold isDoorK doorK
    simp only [decide_eq_true_eq]
    omega
theorem fold_goodT {P : Ta.Par} {n : Nat} (l : List Ac) : ∀ (x : StK), GoodT P n x → GoodT P n (l.foldl (ordK (.tas P)) x) := by
  induction l with
  | nil => exact fun _ h => h
  | cons c l ih => exact fun x h => ih _ (h.act c)
/-- Behind the rounds all rest, and have held in the order of their doorways; a lock over a word that is taken has no doorways. -/
theorem order_end (p : PK) (n : Nat) (σ : Ar) (sp : List Sp) (h : StartK p n σ sp) (l : List Ac) :
    (∀ i, (spOf ((l ++ rActs n (12 * n + 12)).foldl (ordK p) ⟨σ, sp, [], []⟩).sp i).pc = 0) ∧ (p.num = 1 → ((l ++ rActs n (12 * n + 12)).foldl (ordK p) ⟨σ, sp, [], []⟩).doors = []) ∧
    (p.num ≠ 1 → ((l ++ rActs n (12 * n + 12)).foldl (ordK p) ⟨σ, sp, [], []⟩).doors = ((l ++ rActs n (12 * n + 12)).foldl (ordK p) ⟨σ, sp, [], []⟩).held) := by
  cases p with
  | tas P =>
    have g := fold_goodT l _ h
    refine ⟨fun i => ?_, fun _ => doors_T P _ _, fun e => absurd rfl e⟩
    rw [List.foldl_append, fold_rounds]
    have hv := V_le (l.foldl (ordK (.tas P)) ⟨σ, sp, [], []⟩).sp
    rw [g.len] at hv
    refine V_zero (rounds_goodT g _).inv ?_ i
    rcases rounds_T g (12 * n + 12) with r | r
    · omega
    · exact r
  | tic P =>
    · obtain ⟨h, hl⟩ := h
      have h1 := Tk.ord_fold l _ h
      have e1 := fold_tk l (⟨σ, sp, [], []⟩ : StK) h
      have hl1 : (toTk (l.foldl (ordK (.tic P)) ⟨σ, sp, [], []⟩)).sp.length = n := (fold_len (.tic P) l _).1.trans hl
      rw [e1] at hl1
      obtain ⟨y, hy, y1, y2⟩ := Tk.ord_end h1 hl1 (12 * n + 12) (by omega)
      have e3 : toTk ((l ++ rActs n (12 * n + 12)).foldl (ordK (.tic P)) ⟨σ, sp, [], []⟩) = y := by rw [fold_tk (l ++ rActs n (12 * n + 12)) (⟨σ, sp, [], []⟩ : StK) h, List.foldl_append]; exact hy
      have f1 : ((l ++ rActs n (12 * n + 12)).foldl (ordK (.tic P)) (⟨σ, sp, [], []⟩ : StK)).sp = y.sp := congrArg Tk.St.sp e3
      have f2 : ((l ++ rActs n (12 * n + 12)).foldl (ordK (.tic P)) (⟨σ, sp, [], []⟩ : StK)).doors = y.doors := congrArg Tk.St.doors e3
      have f3 : ((l ++ rActs n (12 * n + 12)).foldl (ordK (.tic P)) (⟨σ, sp, [], []⟩ : StK)).held = y.held := congrArg Tk.St.held e3
      exact ⟨fun i => by rw [f1]; exact y1 i, fun e => absurd e (by simp only [PK.num]; decide), fun _ => by rw [f2, f3]; exact y2⟩
  | par P =>
    · obtain ⟨h, hl⟩ := h
      have h1 := Pt.ord_fold l _ h
      have e1 := fold_pt l (⟨σ, sp, [], []⟩ : StK) h
      have hl1 : (toPt (l.foldl (ordK (.par P)) ⟨σ, sp, [], []⟩)).sp.length = n := (fold_len (.par P) l _).1.trans hl
      rw [e1] at hl1
      obtain ⟨y, hy, y1, y2⟩ := Pt.ord_end h1 hl1 (12 * n + 12) (by omega)
      have e3 : toPt ((l ++ rActs n (12 * n + 12)).foldl (ordK (.par P)) ⟨σ, sp, [], []⟩) = y := by rw [fold_pt (l ++ rActs n (12 * n + 12)) (⟨σ, sp, [], []⟩ : StK) h, List.foldl_append]; exact hy
      have f1 : ((l ++ rActs n (12 * n + 12)).foldl (ordK (.par P)) (⟨σ, sp, [], []⟩ : StK)).sp = y.sp := congrArg Pt.St.sp e3
      have f2 : ((l ++ rActs n (12 * n + 12)).foldl (ordK (.par P)) (⟨σ, sp, [], []⟩ : StK)).doors = y.doors := congrArg Pt.St.doors e3
      have f3 : ((l ++ rActs n (12 * n + 12)).foldl (ordK (.par P)) (⟨σ, sp, [], []⟩ : StK)).held = y.held := congrArg Pt.St.held e3
      exact ⟨fun i => by rw [f1]; exact y1 i, fun e => absurd e (by simp only [PK.num]; decide), fun _ => by rw [f2, f3]; exact y2⟩
  | mcs P =>
    · obtain ⟨h, hl⟩ := h
      have h1 := Mc.ord_fold l _ h
      have e1 := fold_mc l (⟨σ, sp, [], []⟩ : StK) h
      have hl1 : (toMc (l.foldl (ordK (.mcs P)) ⟨σ, sp, [], []⟩)).sp.length = n := (fold_len (.mcs P) l _).1.trans hl
      rw [e1] at hl1
      obtain ⟨y, hy, y1, y2⟩ := Mc.ord_end h1 hl1 (12 * n + 12) (by omega)
      have e3 : toMc ((l ++ rActs n (12 * n + 12)).foldl (ordK (.mcs P)) ⟨σ, sp, [], []⟩) = y := by rw [fold_mc (l ++ rActs n (12 * n + 12)) (⟨σ, sp, [], []⟩ : StK) h, List.foldl_append]; exact hy
      have f1 : ((l ++ rActs n (12 * n + 12)).foldl (ordK (.mcs P)) (⟨σ, sp, [], []⟩ : StK)).sp = y.sp := congrArg Mc.St.sp e3
      have f2 : ((l ++ rActs n (12 * n + 12)).foldl (ordK (.mcs P)) (⟨σ, sp, [], []⟩ : StK)).doors = y.doors := congrArg Mc.St.doors e3
      have f3 : ((l ++ rActs n (12 * n + 12)).foldl (ordK (.mcs P)) (⟨σ, sp, [], []⟩ : StK)).held = y.held := congrArg Mc.St.held e3
      exact ⟨fun i => by rw [f1]; exact y1 i, fun e => absurd e (by simp only [PK.num]; decide), fun _ => by rw [f2, f3]; exact y2⟩
  | clh P =>
    · obtain ⟨h, hl⟩ := h
      have h1 := Cl.ord_fold l _ h
      have e1 := fold_cl l (⟨σ, sp, [], []⟩ : StK) h
      have hl1 : (toCl (l.foldl (ordK (.clh P)) ⟨σ, sp, [], []⟩)).sp.length = n := (fold_len (.clh P) l _).1.trans hl
      rw [e1] at hl1
      obtain ⟨y, hy, y1, y2⟩ := Cl.ord_end h1 hl1 (12 * n + 12) (by omega)
      have e3 : toCl ((l ++ rActs n (12 * n + 12)).foldl (ordK (.clh P)) ⟨σ, sp, [], []⟩) = y := by rw [fold_cl (l ++ rActs n (12 * n + 12)) (⟨σ, sp, [], []⟩ : StK) h, List.foldl_append]; exact hy
      have f1 : ((l ++ rActs n (12 * n + 12)).foldl (ordK (.clh P)) (⟨σ, sp, [], []⟩ : StK)).sp = y.sp := congrArg Cl.St.sp e3
      have f2 : ((l ++ rActs n (12 * n + 12)).foldl (ordK (.clh P)) (⟨σ, sp, [], []⟩ : StK)).doors = y.doors := congrArg Cl.St.doors e3
      have f3 : ((l ++ rActs n (12 * n + 12)).foldl (ordK (.clh P)) (⟨σ, sp, [], []⟩ : StK)).held = y.held := congrArg Cl.St.held e3
      exact ⟨fun i => by rw [f1]; exact y1 i, fun e => absurd e (by simp only [PK.num]; decide), fun _ => by rw [f2, f3]; exact y2⟩
end Go.Proofs.Ythffhhgaeolpgaa.Fl

/- Tris of a law's own: all acts; who has passed the doorway; who has held. -/
namespace Go.Proofs.Ythffhhgaeolpgaa.Lok
open Go.RowKit Go.Proofs.Ythffhhgaeolpgaa.Ara Go.ChangeShapes Go.WideShapes Go.Deep

theorem grown_mod {w w' : World} {row : Option Nat} (h : w.grownBy w' row) : Mod row.toList w w' :=
  ⟨h.os, h.tape, h.output, h.size, fun k hk hn => h.block k hk (fun e => hn (by rw [← e]; simp))⟩
theorem own_apart {S : List Nat} {w w' : World} {base : Nat} {e : TypeId} {size : Nat} {v : Value} {n : Nat} {xs : List Value} (h : w.ownsRow base e size v n xs) (hm : Mod S w w') (hb : ∀ b, v.ownBlock = some b → b ∉ S) : w'.ownsRow base e size v n xs := by
  obtain ⟨h1, h2⟩ := h
  refine ⟨h1, ?_⟩
  rcases h2 with h2 | ⟨g, cap, cur, rfl, hg, hbk, rest⟩
  · exact .inl h2
  · exact .inr ⟨g, cap, cur, rfl, hg, hm.blk hbk (hb g rfl), rest⟩
theorem own_block {w : World} {base : Nat} {e : TypeId} {size : Nat} {v : Value} {n : Nat} {xs : List Value} (h : w.ownsRow base e size v n xs) {b : Nat} (hb : v.ownBlock = some b) : base ≤ b ∧ b < w.heap.size := by
  rcases h.2 with ⟨rfl, _⟩ | ⟨g, cap, cur, rfl, hg, hbk, rest⟩
  · cases hb
  · simp [Value.ownBlock] at hb
    subst hb
    exact ⟨hg, lt_of_blk hbk⟩
/-- The three rows, apart. -/
def Tris (W : World) (B1 B3 : Nat) (va vd vh : Value) (all : List Ac) (doors held : List Int) : Prop :=
  W.ownsRow B1 34 2 va all.length (all.flatMap decAc) ∧ (∀ b, va.ownBlock = some b → b < B3) ∧
    W.ownsRow B3 3 1 vd doors.length (doors.map vI) ∧ W.ownsRow B3 3 1 vh held.length (held.map vI) ∧ (∀ b, vd.ownBlock = some b → vh.ownBlock ≠ some b) ∧ B3 ≤ W.heap.size ∧ B1 ≤ B3
section
variable {W W' : World} {B1 B3 : Nat} {va vd vh : Value} {all : List Ac} {doors held : List Int} (h : Tris W B1 B3 va vd vh all doors held)
include h
theorem Tris.mod {S : List Nat} (hm : Mod S W W') (hS : ∀ x ∈ S, x < B1) : Tris W' B1 B3 va vd vh all doors held := by
  obtain ⟨h1, h2, h3, h4, h5, h6, h7⟩ := h
  refine ⟨own_apart h1 hm (fun b hb hx => ?_), h2, own_apart h3 hm (fun b hb hx => ?_), own_apart h4 hm (fun b hb hx => ?_), h5, Nat.le_trans h6 hm.size, h7⟩
  · have := (own_block h1 hb).1; have := hS b hx; omega
  · have := (own_block h3 hb).1; have := hS b hx; omega
  · have := (own_block h4 hb).1; have := hS b hx; omega
theorem Tris.same (hb : Below W.heap.size W W') : Tris W' B1 B3 va vd vh all doors held := h.mod (S := []) (Mod.of_below hb) (by simp)
theorem Tris.at_ {k : Nat} (hk : k < all.length) : ∃ b off cap, va = .slice (some ⟨b, off, none⟩) all.length cap ∧ W.cell? ⟨b, off + k * 2, none⟩ = some (.int .i64 all[k].kind) ∧ W.cell? ⟨b, off + k * 2 + 1, none⟩ = some (.int .i64 all[k].i) := by
  obtain ⟨A, c, rfl, _, _, hsl⟩ := own_slice h.1
  obtain ⟨b, off, rfl, _, hcell⟩ := Sl_at (dec := decAc) (k := 2) (fun _ => rfl) (by omega) (show Sl W W.heap.size A (all.flatMap decAc) from hsl) (by omega)
  have h0 := hcell k hk 0 (by omega)
  have h1 := hcell k hk 1 (by omega)
  simp only [decAc, List.getElem?_cons_zero, List.getElem?_cons_succ, Nat.add_zero, ← Nat.add_assoc] at h0 h1
  exact ⟨b, off, c, rfl, h0, h1⟩
/-- One more in the row of doorways. -/
theorem Tris.door {vd' : Value} {i : Int} (hown : W'.ownsRow B3 3 1 vd' (doors.length + 1) (doors.map vI ++ [.int .i64 i])) (hg : W.grownBy W' vd.ownBlock) (hn : ∀ b, vd'.ownBlock = some b → vd.ownBlock = some b ∨ W.heap.size ≤ b) :
    Tris W' B1 B3 va vd' vh all (doors ++ [i]) held ∧ Mod vd.ownBlock.toList W W' ∧ ∀ x ∈ vd.ownBlock.toList, B3 ≤ x := by
  obtain ⟨h1, h2, h3, h4, h5, h6, h7⟩ := h
  have hm := grown_mod hg
  have hS : ∀ x ∈ vd.ownBlock.toList, vd.ownBlock = some x := by simp
  refine ⟨⟨own_apart h1 hm (fun b hb hx => ?_), h2, ?_, own_apart h4 hm (fun b hb hx => ?_), fun b hb e => ?_, Nat.le_trans h6 hm.size, h7⟩, hm, fun x hx => (own_block h3 (hS x hx)).1⟩
  · have := (own_block h3 (hS b hx)).1; have := h2 b hb; omega
  · rw [List.length_append, List.map_append]; exact hown
  · exact h5 b (hS b hx) hb
  · rcases hn b hb with q | q
    · exact h5 b q e
    · have := (own_block h4 e).2; omega
theorem Tris.hold {vh' : Value} {i : Int} (hown : W'.ownsRow B3 3 1 vh' (held.length + 1) (held.map vI ++ [.int .i64 i])) (hg : W.grownBy W' vh.ownBlock) (hn : ∀ b, vh'.ownBlock = some b → vh.ownBlock = some b ∨ W.heap.size ≤ b) :
    Tris W' B1 B3 va vd vh' all doors (held ++ [i]) ∧ Mod vh.ownBlock.toList W W' ∧ ∀ x ∈ vh.ownBlock.toList, B3 ≤ x := by
  obtain ⟨h1, h2, h3, h4, h5, h6, h7⟩ := h
  have hm := grown_mod hg
  have hS : ∀ x ∈ vh.ownBlock.toList, vh.ownBlock = some x := by simp
  refine ⟨⟨own_apart h1 hm (fun b hb hx => ?_), h2, own_apart h3 hm (fun b hb hx => ?_), ?_, fun b hb e => ?_, Nat.le_trans h6 hm.size, h7⟩, hm, fun x hx => (own_block h4 (hS x hx)).1⟩
  · have := (own_block h4 (hS b hx)).1; have := h2 b hb; omega
  · exact h5 b hb (hS b hx)
  · rw [List.length_append, List.map_append]; exact hown
  · rcases hn b e with q | q
    · exact h5 b hb q
    · have := (own_block h3 hb).2; omega
end
set_option maxRecDepth 100000 in
theorem infoAc : (Try.prog.info? 34).map (fun i => (i.zero, i.size, i.bytes)) = some (some (.agg #[.int .i64 0, .int .i64 0]), 2, 16) := by kernel_rfl
set_option maxRecDepth 100000 in
/-- 'append(nil, l...)'. -/
theorem wpList_append_all {ops : Array Oper} {rest : List Oper} {o : Oper} {a : Act} {Q : Exit → Act → World → Prop} (s x : Operand)
    (hgd : o.guard = none) (ho : o.op = .call { callee := .builtin .append, args := #[s, x], argTypes := #[22, 22] })
    (w : World) (A : Option Addr) (c B : Nat) (l : List Ac) (hs : a.eval s = .slice none 0 0) (hx : a.eval x = .slice A l.length c) (hsl : Sl w B A (l.flatMap decAc)) (hnil : A = none → c = 0) (hl : l.length ≤ 4096)
    (h : ∀ v' w', Hid (w'.ownsRow w.heap.size 34 2 v' l.length (l.flatMap decAc)) → Hid (Below w.heap.size w w') → wpList Try.prog ops Q rest (a.put o.dst v') w') :
    wpList Try.prog ops Q (o :: rest) a w := by
  obtain ⟨i0, hi0, hz0, hz1, hz2⟩ := info_parts infoAc
  cases hA : A with
  | none =>
    have hc := hnil hA
    have hl0 : l = [] := by
      rcases hsl with h0 | ⟨b, off, e, _⟩
      · cases l with
        | nil => rfl
        | cons y l => simp [decAc] at h0
      · rw [hA] at e; cases e
    subst hl0
    rw [hA, hc] at hx
    exact wpList_append_own_none hgd s x _ ho w.heap.size _ i0 2 Try.underlying22 hi0 (.slice none 0 0) 0 [] hs (World.ownsRow_nil _ _ _ _) hx (h _ _ (World.ownsRow_nil _ _ _ _) (Below.refl _ _))
  | some ad =>
    rw [hA] at hx hsl
    refine wpList_append_own_at _ hgd s x _ ho w.heap.size _ i0 _ 2 16 Try.underlying22 hi0 hz0 hz1 hz2 rfl (by decide) (.slice none 0 0) 0 [] hs (World.ownsRow_nil _ _ _ _) ad l.length c (l.flatMap decAc) hx (flat_len (dec := decAc) (k := 2) (fun _ => rfl) l) ?_ ?_ (by simp only [maxLen]; omega) (by omega) (Nat.le_refl _) ?_
    · intro j u hu
      rcases hsl with h0 | ⟨b, off, e, _, hc⟩
      · rw [h0] at hu; simp at hu
      · injection e with e
        subst e
        have hj := (List.getElem?_eq_some_iff.1 hu).1
        have hadd : (⟨b, off, none⟩ : Addr).add j = ⟨b, off + j, none⟩ := by unfold Addr.add; split <;> simp_all
        rw [hadd, hc j hj, ← List.getElem?_eq_getElem hj, hu]
    · intro u hu
      obtain ⟨y, _, hy⟩ := List.mem_flatMap.1 hu
      simp [decAc] at hy
      rcases hy with rfl | rfl <;> rfl
    · intro v' w' hown hg _ _
      rw [Nat.zero_add, List.nil_append] at hown
      exact h v' w' hown ((grown_mod hg).below (Nat.le_refl _) (by simp [Value.ownBlock]))
theorem nil_cap {H : Type} {enc : TypeId × Value → H} {W : World} {base : Nat} {t e : TypeId} {spare : Nat → Bool} {held : Bool} {A : Option Addr} {len cap : Nat} {d : DataW H} {p : List MemPlace} (ht : Try.prog.underlying t = some (.slice e)) (h : DataW.Trod enc Try.prog W base spare held t (.slice A len cap) d p) (hA : A = none) : cap = 0 := by
  obtain ⟨fuel, hf⟩ := h
  rcases open_slice ht hf with ⟨h1, _⟩ | ⟨a, len', cap', m, n, D, Pl, h1, _⟩
  · simp [Value.cells] at h1
    exact h1.2.2
  · simp [Value.cells] at h1
    rw [hA] at h1
    cases h1.1
end Go.Proofs.Ythffhhgaeolpgaa.Lok

/- Layer 20's law FlatOrder. -/
namespace Go.Proofs.Ythffhhgaeolpgaa.Fl
open Go.RowKit Go.Proofs.Ythffhhgaeolpgaa.Ara Go.Proofs.Ythffhhgaeolpgaa.Lok

theorem frame170 {a : Act} (h : a.tmps.size = 170) (hd : a.defers = []) : ∃ u : Nat → Value, a = { tmps := #[u 0, u 1, u 2, u 3, u 4, u 5, u 6, u 7, u 8, u 9, u 10, u 11, u 12, u 13, u 14, u 15, u 16, u 17, u 18, u 19, u 20, u 21, u 22, u 23, u 24, u 25, u 26, u 27, u 28, u 29, u 30, u 31, u 32, u 33, u 34, u 35, u 36, u 37, u 38, u 39, u 40, u 41, u 42, u 43, u 44, u 45, u 46, u 47, u 48, u 49, u 50, u 51, u 52, u 53, u 54, u 55, u 56, u 57, u 58, u 59, u 60, u 61, u 62, u 63, u 64, u 65, u 66, u 67, u 68, u 69, u 70, u 71, u 72, u 73, u 74, u 75, u 76, u 77, u 78, u 79, u 80, u 81, u 82, u 83, u 84, u 85, u 86, u 87, u 88, u 89, u 90, u 91, u 92, u 93, u 94, u 95, u 96, u 97, u 98, u 99, u 100, u 101, u 102, u 103, u 104, u 105, u 106, u 107, u 108, u 109, u 110, u 111, u 112, u 113, u 114, u 115, u 116, u 117, u 118, u 119, u 120, u 121, u 122, u 123, u 124, u 125, u 126, u 127, u 128, u 129, u 130, u 131, u 132, u 133, u 134, u 135, u 136, u 137, u 138, u 139, u 140, u 141, u 142, u 143, u 144, u 145, u 146, u 147, u 148, u 149, u 150, u 151, u 152, u 153, u 154, u 155, u 156, u 157, u 158, u 159, u 160, u 161, u 162, u 163, u 164, u 165, u 166, u 167, u 168, u 169], defers := [] } ∧ ∀ n, a.tmps.getD n undef = u n := by
  refine ⟨fun n => a.tmps.getD n undef, ?_, fun _ => rfl⟩
  have h1 := arr_lit a.tmps h
  cases a with
  | mk t d =>
    simp only at hd h1
    subst hd
    congr 1
theorem pk_num {kind : Int} (h1 : 1 ≤ kind) (h5 : kind ≤ 5) (par : Int) (a : Nat) : (pkK kind par a).num = kind := by
  rcases (show kind = 1 ∨ kind = 2 ∨ kind = 3 ∨ kind = 4 ∨ kind = 5 by omega) with rfl | rfl | rfl | rfl | rfl <;> rfl
theorem door_fl (p : PK) (w : World) : Calls Try.prog 33 #[.int .i64 p.num] w fun e w' => e = .returned (.int .i64 (doorK p)) ∧ w' = w := by
  cases p with
  | tas P =>
    show Calls Try.prog 33 #[.int .i64 1] w fun e w' => e = .returned (.int .i64 0) ∧ w' = w
    go_enter Try.func33, Try.ntmps33
    go_wp2_with fail
    go_ret
    exact ⟨rfl, rfl⟩
  | tic P =>
    show Calls Try.prog 33 #[.int .i64 2] w fun e w' => e = .returned (.int .i64 1) ∧ w' = w
    go_enter Try.func33, Try.ntmps33
    go_wp2_with fail
    go_ret
    exact ⟨rfl, rfl⟩
  | par P =>
    show Calls Try.prog 33 #[.int .i64 3] w fun e w' => e = .returned (.int .i64 1) ∧ w' = w
    go_enter Try.func33, Try.ntmps33
    go_wp2_with fail
    go_ret
    exact ⟨rfl, rfl⟩
  | mcs P =>
    show Calls Try.prog 33 #[.int .i64 4] w fun e w' => e = .returned (.int .i64 3) ∧ w' = w
    go_enter Try.func33, Try.ntmps33
    go_wp2_with fail
    go_ret
    exact ⟨rfl, rfl⟩
  | clh P =>
    show Calls Try.prog 33 #[.int .i64 5] w fun e w' => e = .returned (.int .i64 2) ∧ w' = w
    go_enter Try.func33, Try.ntmps33
    go_wp2_with fail
    go_ret
    exact ⟨rfl, rfl⟩
theorem start_flat (kind : Int) (n : Nat) (par : Int) (hM : mayK kind n par) (h4 : par ≤ 4) (σ : Ar) (hz : ∀ k, σ.t ≤ k → σ.ws.getD k 0 = 0) (hr : σ.t + sizeK kind n par ≤ σ.ws.length) :
    StartK (pkK kind par (σ.t + 1)) n (firstK kind n par (σ.t + 1) { σ with t := σ.t + sizeK kind n par }).1 (firstK kind n par (σ.t + 1) { σ with t := σ.t + sizeK kind n par }).2 := by
  obtain ⟨⟨k1, k5⟩, ⟨n1, n2⟩, ha1, ha3⟩ := hM
  have hzr := zr_take hr hz
  have hz0 : ∀ i, (spOf (List.replicate n sp0) i).pc = 0 := fun i => by rw [Pt.zero_spot]; rfl
  rcases (show kind = 1 ∨ kind = 2 ∨ kind = 3 ∨ kind = 4 ∨ kind = 5 by omega) with rfl | rfl | rfl | rfl | rfl
  · obtain ⟨m1, m2⟩ := ha1 rfl
    refine ⟨Ta.inv_st hzr par m1 m2 n, fun i => ?_, h4, List.length_replicate⟩
    have e : spOf (Ta.zeroS n) i = sp0 := Ta.zero_spot n i
    show (spOf (Ta.zeroS n) i).a ≤ par ∧ (spOf (Ta.zeroS n) i).b ≤ par
    rw [e]
    exact ⟨by show (0 : Int) ≤ par; omega, by show (0 : Int) ≤ par; omega⟩
  · refine ⟨⟨0, 0, Tk.inv_st hzr n, rfl, fun i hi => ?_, rfl, .inr ⟨fun i hi => ?_, rfl⟩⟩, List.length_replicate⟩
    · have := hz0 i; have hi' : Tk.inq (spOf (List.replicate n sp0) i) := hi; unfold Tk.inq at hi'; omega
    · have := hz0 i; have hi' : Tk.inn (spOf (List.replicate n sp0) i) := hi; unfold Tk.inn at hi'; omega
  · obtain ⟨p1, p2⟩ := ha3 rfl
    obtain ⟨p, rfl⟩ := Int.eq_ofNat_of_zero_le (show 0 ≤ par by omega)
    refine ⟨⟨0, 0, Pt.inv_st (p := p) hzr (by omega) (by omega) n, rfl, fun i hi => ?_, rfl, .inr ⟨fun i hi => ?_, rfl⟩⟩, List.length_replicate⟩
    · have := hz0 i; have hi' : Pt.inq (spOf (List.replicate n sp0) i) := hi; unfold Pt.inq at hi'; omega
    · have := hz0 i; have hi' : Pt.inn (spOf (List.replicate n sp0) i) := hi; unfold Pt.inn at hi'; omega
  · refine ⟨⟨_, [], Mc.inv_st hzr, rfl, .inr ⟨fun i hi => ?_, rfl⟩⟩, List.length_replicate⟩
    have := hz0 i; have hi' : Mc.outs (spOf (List.replicate n sp0) i) := hi; unfold Mc.outs at hi'; omega
  · refine ⟨⟨_, _, [], Cl.inv_st hzr n2, rfl, .inr ⟨fun i hi => ?_, rfl⟩⟩, by simp [firstK, Cl.first0]⟩
    have : (spOf (Cl.first0 n) i).pc = 0 := by rw [Cl.first0_spot]; split <;> rfl
    have hi' : Cl.inn (spOf (Cl.first0 n) i) := hi
    unfold Cl.inn at hi'
    omega
theorem FLAt.base {B gf gl ga ha hs : Nat} {p : PK} {σ : Ar} {sp : List Sp} {W W' : World} (k : FLAt W gf gl ga ha hs p σ sp) (hb : Below B W W') (h0 : gf < B) (h1 : gl < B) (h2 : ga < B) (h3 : ha < B) (h4 : hs < B) : FLAt W' gf gl ga ha hs p σ sp := by
  have key : ∀ {X : Nat}, X < B → W'.heap[X]? = W.heap[X]? := fun h => hb.block _ h
  refine ⟨(key h0).trans k.fb, ?_, k.n1, k.n2, k.n3⟩
  have a := k.at_
  cases p with
  | tas P => obtain ⟨k1, k2, k3, ⟨c, k4⟩, k5⟩ := a; exact ⟨k1.upd (S := []) (Upd.of_below hb) h2 h3 (by simp) (by simp), k2.of_blk (key h4), k3, ⟨c, (key h1).trans k4⟩, k5⟩
  | tic P => obtain ⟨k1, k2, k3, ⟨c, k4⟩, k5⟩ := a; exact ⟨k1.upd (S := []) (Upd.of_below hb) h2 h3 (by simp) (by simp), k2.of_blk (key h4), k3, ⟨c, (key h1).trans k4⟩, k5⟩
  | par P => obtain ⟨k1, k2, k3, ⟨c, k4⟩, k5⟩ := a; exact ⟨k1.upd (S := []) (Upd.of_below hb) h2 h3 (by simp) (by simp), k2.of_blk (key h4), k3, ⟨c, (key h1).trans k4⟩, k5⟩
  | mcs P => obtain ⟨k1, k2, k3, ⟨c, k4⟩, k5⟩ := a; exact ⟨k1.upd (S := []) (Upd.of_below hb) h2 h3 (by simp) (by simp), k2.of_blk (key h4), k3, ⟨c, (key h1).trans k4⟩, k5⟩
  | clh P => obtain ⟨k1, k2, k3, ⟨c, k4⟩, k5⟩ := a; exact ⟨k1.upd (S := []) (Upd.of_below hb) h2 h3 (by simp) (by simp), k2.of_blk (key h4), k3, ⟨c, (key h1).trans k4⟩, k5⟩
/-- What stays in the frame. -/
def Fr (p : PK) (N gf : Nat) (a : Act) : Prop := a.tmps.size = 170 ∧ a.defers = [] ∧ a.tmps.getD 7 undef = .int .i64 p.num ∧ a.tmps.getD 8 undef = .int .i64 N ∧ a.tmps.getD 10 undef = .pointer (some ⟨gf, 0, none⟩)
def OrX (p : PK) (X0 : StK) (l : List Ac) : StK := l.foldl (ordK p) X0
def OrR1 (l : List Ac) (N gf gl ga ha hs B1 : Nat) (p : PK) (σ : Ar) (sp : List Sp) (w : World) (a : Act) (W : World) : Prop :=
  Fr p N gf a ∧ ∃ (r : Nat) (v : Value), a.tmps.getD 13 undef = .int .i64 r ∧ a.tmps.getD 12 undef = v ∧ r ≤ 12 * N + 12 ∧ W.ownsRow B1 34 2 v (l ++ rActs N r).length ((l ++ rActs N r).flatMap decAc) ∧ FLAt W gf gl ga ha hs p σ sp ∧ Below w.heap.size w W ∧ B1 ≤ W.heap.size
def OrR2 (l : List Ac) (N gf gl ga ha hs B1 r : Nat) (p : PK) (σ : Ar) (sp : List Sp) (w : World) (a : Act) (W : World) : Prop :=
  Fr p N gf a ∧ a.tmps.getD 13 undef = .int .i64 r ∧ ∃ (i : Nat) (v : Value), a.tmps.getD 14 undef = .int .i64 i ∧ a.tmps.getD 12 undef = v ∧ i ≤ N ∧ W.ownsRow B1 34 2 v (l ++ rActs N r ++ rAct i).length ((l ++ rActs N r ++ rAct i).flatMap decAc) ∧ FLAt W gf gl ga ha hs p σ sp ∧ Below w.heap.size w W ∧ B1 ≤ W.heap.size
/-- The acts' loop. -/
def OrJ (all : List Ac) (N gf gl ga ha hs B1 B3 : Nat) (p : PK) (X0 : StK) (w : World) (a : Act) (W : World) : Prop :=
  Fr p N gf a ∧ ∃ (k : Nat) (x : StK) (va vd vh : Value), a.tmps.getD 17 undef = .int .i64 k ∧ a.tmps.getD 12 undef = va ∧ a.tmps.getD 15 undef = vd ∧ a.tmps.getD 16 undef = vh ∧ k ≤ all.length ∧ OrX p X0 (all.take k) = x ∧ OkK p x.σ x.sp N k ∧ FLAt W gf gl ga ha hs p x.σ x.sp ∧ Tris W B1 B3 va vd vh all x.doors x.held ∧ Below w.heap.size w W
/-- Behind the test of a doorway; behind that of a hold. -/
def OrA (N gf gl ga ha hs B1 B3 : Nat) (p : PK) (k : Nat) (pc : Int) (va vd vh : Value) (d : Bool) (all : List Ac) (x : StK) (doors : List Int) (w : World) (a : Act) (W : World) : Prop :=
  Fr p N gf a ∧ a.tmps.getD 17 undef = .int .i64 k ∧ a.tmps.getD 12 undef = va ∧ a.tmps.getD 15 undef = vd ∧ a.tmps.getD 16 undef = vh ∧ a.tmps.getD 18 undef = .int .i64 pc ∧ a.tmps.getD 111 undef = .bool d ∧ FLAt W gf gl ga ha hs p x.σ x.sp ∧ Tris W B1 B3 va vd vh all doors x.held ∧ Below w.heap.size w W
def OrB (N gf gl ga ha hs B1 B3 : Nat) (p : PK) (k : Nat) (va vd vh : Value) (d : Bool) (all : List Ac) (x : StK) (doors : List Int) (w : World) (a : Act) (W : World) : Prop :=
  Fr p N gf a ∧ a.tmps.getD 17 undef = .int .i64 k ∧ a.tmps.getD 12 undef = va ∧ a.tmps.getD 15 undef = vd ∧ a.tmps.getD 16 undef = vh ∧ a.tmps.getD 132 undef = .bool d ∧ FLAt W gf gl ga ha hs p x.σ x.sp ∧ Tris W B1 B3 va vd vh all doors x.held ∧ Below w.heap.size w W
def OrE (N gf gl ga ha hs : Nat) (p : PK) (va vd vh : Value) (B1 B3 : Nat) (all : List Ac) (x : StK) (w : World) (a : Act) (W : World) : Prop :=
  Fr p N gf a ∧ a.tmps.getD 15 undef = vd ∧ a.tmps.getD 16 undef = vh ∧ ∃ j : Nat, a.tmps.getD 19 undef = .int .i64 j ∧ j ≤ N ∧ FLAt W gf gl ga ha hs p x.σ x.sp ∧ Tris W B1 B3 va vd vh all x.doors x.held ∧ Below w.heap.size w W
set_option maxHeartbeats 16000000 in
set_option maxRecDepth 100000 in
theorem order_walk (kind n : Int) (k0 : 0 ≤ kind) (k1 : kind ≤ 255) (n0 : 0 ≤ n) (n1 : n ≤ 255) (l : List Ac) (A : Option Addr) (cap : Nat) (w : World) (hl : l.length ≤ 100) (hs : Sl w w.heap.size A (l.flatMap decAc)) (hnil : A = none → cap = 0) :
    Calls Try.prog 9 #[.int .u8 kind, .int .u8 n, .slice A l.length cap] w fun e w' => e = .returned (.bool true) ∧ Below w.heap.size w w' := by
  have i1 : (l.length : Int) ≤ 100 := by omega
  have m0 : 0 ≤ n % 6 := by omega
  have m1 : n % 6 < 6 := by omega
  have m2 : 0 ≤ n / 8 % 4 := by omega
  have m3 : n / 8 % 4 < 4 := by omega
  have m4 : 0 ≤ kind % 5 := by omega
  have m5 : kind % 5 < 5 := by omega
  obtain ⟨N, hN⟩ := Int.eq_ofNat_of_zero_le (show 0 ≤ 1 + n % 6 by omega)
  have hN1 : 1 ≤ N := by omega
  have hN2 : N ≤ 6 := by omega
  have HSl := Lib.hid hs
  have HNil := Lib.hid hnil
  have hM : mayK (1 + kind % 5) N (1 + n / 8 % 4) := ⟨by omega, by omega, fun _ => by omega, fun _ => by omega⟩
  have hsz : sizeK (1 + kind % 5) N (1 + n / 8 % 4) ≤ 20 := by unfold sizeK; repeat (first | split | omega)
  have HM := Lib.hid hM
  have HZ := Lib.hid hsz
  clear hs hM hsz hnil
  go_enter Try.func9, Try.ntmps9
  go_wp2_with fail
  refine (new_at 100 _ _ rfl).mono ?_
  rintro e w1 ⟨rfl, hat⟩
  have hr : (Ar.fresh (room 100)).ws.length = 100 := by simp [Ar.fresh, zerosW, room]
  have HN := Lib.hid (new_flat (1 + kind % 5) N (1 + n / 8 % 4) HM.out (w.heap.size + 1) w.heap.size _ w1 hat.1 (by have := hat.2.1; omega) (by rw [hr]; have := HZ.out; show 0 + _ ≤ _; omega) (by omega) (by show 0 ≤ _; omega))
  have HO1 := Lib.hid (ok_flat (1 + kind % 5) N (1 + n / 8 % 4) HM.out (Ar.fresh (room 100)) (fun k _ => zeros_getD _ _) (by rw [hr]; have := HZ.out; show 0 + _ ≤ _; omega) (by omega) 0 (Nat.le_refl _))
  have HS1 := Lib.hid (start_flat (1 + kind % 5) N (1 + n / 8 % 4) HM.out (by omega) (Ar.fresh (room 100)) (fun k _ => zeros_getD _ _) (by rw [hr]; have := HZ.out; show 0 + _ ≤ _; omega))
  have HP1 := Lib.hid (pk_num (kind := 1 + kind % 5) (by omega) (by omega) (1 + n / 8 % 4) (0 + 1))
  have HB1 := Lib.hid hat.2.2
  have hz1 := hat.2.1
  clear hat hr
  go_wp2_with fail
  refine HN.out.mono ?_
  rintro e w2 ⟨gf, gl, hs, rfl, hk, ⟨b1, b2, b3⟩, hm⟩
  obtain ⟨p, σ0, sp0', HK, HO, HSt, HPn⟩ : ∃ (p : PK) (σ0 : Ar) (sp0' : List Sp), Hid (FLAt w2 gf gl (w.heap.size + 1) w.heap.size hs p σ0 sp0') ∧ Hid (OkK p σ0 sp0' N 0) ∧ Hid (StartK p N σ0 sp0') ∧ Hid (p.num = 1 + kind % 5) := ⟨_, _, _, hk, HO1.out, HS1.out, HP1.out⟩
  have HB := Lib.hid (HB1.out.trans (hm.below (by omega) (by simp)))
  have HG := Lib.hid (show w.heap.size ≤ gf ∧ w.heap.size ≤ gl ∧ w.heap.size ≤ hs by omega)
  clear hk hm HN HO1 HB1 HS1 HP1
  have hBw := HB.out.size
  go_wp2_with (at_builtin; refine wpList_append_all (.tmp 51) (.tmp 52) rfl rfl _ A cap _ l rfl rfl (HSl.out.below HB.out) HNil.out (by omega) ?cks; case' cks => intro v3 w3 hown3 hb3)
  have HK3 := Lib.hid (HK.out.same hb3.out)
  have HB3 := Lib.hid (HB.out.trans (hb3.out.mono hBw))
  have hz3 := hb3.out.size
  have hsz3 : gf < w2.heap.size ∧ gl < w2.heap.size ∧ w.heap.size + 1 < w2.heap.size ∧ hs < w2.heap.size := HK.out.blocks
  clear HK HB hb3
  generalize w2.heap.size = B1 at *
  refine wp_loop (OrR1 l N gf gl (w.heap.size + 1) w.heap.size hs B1 p σ0 sp0' w) (fun a' _ => 12 * N + 12 - (intOf (a'.tmps.getD 13 undef)).toNat) ?_ ?_
  · exact ⟨⟨rfl, rfl, by rw [HPn.out]; rfl, rfl, rfl⟩, 0, v3, rfl, rfl, Nat.zero_le _, by simpa [rActs] using hown3.out, HK3.out, HB3.out, hz3⟩
  · clear HK3 HB3 hz3 hown3
    rintro a' W ⟨⟨hsz, hdf, s7, s8, s10⟩, r, v, s13, s12, hr, hown, hK, hB, hz⟩
    obtain ⟨u, rfl, hu⟩ := frame170 hsz hdf
    rw [hu] at s7 s8 s10 s13 s12
    simp only [s7, s8, s10, s13, s12]
    clear hsz hdf s7 s8 s10 s13 s12 hu
    have HK := Lib.hid hK
    have HB := Lib.hid hB
    have HOwn := Lib.hid hown
    clear hK hB hown
    have e1 : IntKind.i64.wrap (12 * (N : Int)) = 12 * (N : Int) := IntWalk.i64_in _ (by omega)
    have e2 : IntKind.i64.wrap (12 * (N : Int) + 12) = 12 * (N : Int) + 12 := IntWalk.i64_in _ (by omega)
    by_cases hlt : r < 12 * N + 12
    · have e3 : (r : Int) < 12 * (N : Int) + 12 := by omega
      have hL : r * (2 * N) ≤ 1728 := Nat.le_trans (Nat.mul_le_mul (show r ≤ 84 by omega) (show 2 * N ≤ 12 by omega)) (by omega)
      go_wp2_with fail
      refine wp_loop (OrR2 l N gf gl (w.heap.size + 1) w.heap.size hs B1 r p σ0 sp0' w) (fun a' _ => N - (intOf (a'.tmps.getD 14 undef)).toNat) ?_ ?_
      · exact ⟨⟨rfl, rfl, rfl, rfl, rfl⟩, rfl, 0, v, rfl, rfl, Nat.zero_le _, by simpa [rAct] using HOwn.out, HK.out, HB.out, hz⟩
      · clear HK HB HOwn e1 e2 e3 hz
        rintro a' W2 ⟨⟨hsz, hdf, s7, s8, s10⟩, s13, i, v2, s14, s12, hi, hown, hK, hB, hz⟩
        obtain ⟨u, rfl, hu⟩ := frame170 hsz hdf
        rw [hu] at s7 s8 s10 s13 s14 s12
        simp only [s7, s8, s10, s13, s14, s12]
        clear hsz hdf s7 s8 s10 s13 s14 s12 hu
        have HK := Lib.hid hK
        have HB := Lib.hid hB
        clear hK hB
        by_cases hiN : i < N
        · have hL2 : (l ++ rActs N r ++ rAct i).length ≤ 4096 := by simp [rActs_len, rAct_len]; omega
          have hE := Lib.hid (show l ++ rActs N r ++ rAct (i + 1) = (l ++ rActs N r ++ rAct i) ++ [⟨0, i⟩, ⟨2, i⟩] by rw [rAct, ← List.append_assoc])
          generalize l ++ rActs N r ++ rAct i = la at *
          go_wp2_with (first | (at_builtin; refine wpList_append1 (.tmp 66) (.tmp 69) 22 34 _ 2 16 rfl rfl Try.underlying22 infoAc rfl (by decide) B1 _ _ _ _ _ _ _ _ hown rfl rfl ?cg60 rfl ?d160 ?d260 ?d360 ?d460 ?ck60; case' ck60 => intro v4 w4 hown4 hb4 _) | (at_builtin; refine wpList_append1 (.tmp 71) (.tmp 74) 22 34 _ 2 16 rfl rfl Try.underlying22 infoAc rfl (by decide) B1 _ _ _ _ _ _ _ _ hown4 rfl rfl ?cg65 rfl ?d165 ?d265 ?d365 ?d465 ?ck65; case' ck65 => intro v5 w5 hown5 hb5 _))
          case cg60 => first | rfl | simp
          case d160 => simp [Value.oneCell']
          case d260 => simp only [maxLen]; omega
          case d360 => omega
          try (case d460 => exact hz)
          case cg65 => first | rfl | simp
          case d165 => simp [Value.oneCell']
          case d265 => simp only [maxLen]; omega
          case d365 => omega
          try (case d465 => exact Nat.le_trans hz hb4.size)
          have hz4 := Nat.le_trans hz hb4.size
          have hb6 := hb4.trans hb5
          have hown6 : w5.ownsRow B1 34 2 v5 (l ++ rActs N r ++ rAct (i + 1)).length ((l ++ rActs N r ++ rAct (i + 1)).flatMap decAc) := by
            rw [hE.out]
            simpa [decAc] using hown5
          exact ⟨⟨⟨rfl, rfl, rfl, rfl, rfl⟩, rfl, i + 1, v5, rfl, rfl, hiN, hown6, HK.out.base hb6 (by omega) (by omega) (by omega) (by omega) (by omega), HB.out.trans (hb6.mono (by omega)), Nat.le_trans hz4 hb5.size⟩, by simp [intOf]; omega⟩
        · obtain rfl : i = N := by omega
          have hown6 : W2.ownsRow B1 34 2 v2 (l ++ rActs i (r + 1)).length ((l ++ rActs i (r + 1)).flatMap decAc) := by
            rw [rActs, ← List.append_assoc]
            exact hown
          replace hown := Lib.hid hown
          replace hown6 := Lib.hid hown6
          go_wp2_with fail
          exact ⟨⟨⟨rfl, rfl, rfl, rfl, rfl⟩, r + 1, v2, rfl, rfl, hlt, hown6.out, HK.out, HB.out, hz⟩, by simp [intOf]; omega⟩
    · obtain rfl : r = 12 * N + 12 := by omega
      have hL2 : (l ++ rActs N (12 * N + 12)).length ≤ 2000 := by
        have : (12 * N + 12) * (2 * N) ≤ 1728 := Nat.le_trans (Nat.mul_le_mul (show 12 * N + 12 ≤ 84 by omega) (show 2 * N ≤ 12 by omega)) (by omega)
        simp [rActs_len]; omega
      have HEnd := Lib.hid (show (∀ i, (spOf (OrX p ⟨σ0, sp0', [], []⟩ (l ++ rActs N (12 * N + 12))).sp i).pc = 0) ∧ (p.num = 1 → (OrX p ⟨σ0, sp0', [], []⟩ (l ++ rActs N (12 * N + 12))).doors = []) ∧ (p.num ≠ 1 → (OrX p ⟨σ0, sp0', [], []⟩ (l ++ rActs N (12 * N + 12))).doors = (OrX p ⟨σ0, sp0', [], []⟩ (l ++ rActs N (12 * N + 12))).held) from order_end p N σ0 sp0' HSt.out l)
      have HDl := Lib.hid (show (OrX p ⟨σ0, sp0', [], []⟩ (l ++ rActs N (12 * N + 12))).doors.length ≤ 2000 ∧ (OrX p ⟨σ0, sp0', [], []⟩ (l ++ rActs N (12 * N + 12))).held.length ≤ 2000 by
        have := (fold_len p (l ++ rActs N (12 * N + 12)) ⟨σ0, sp0', [], []⟩).2
        simp only [List.length_nil, Nat.zero_add] at this
        exact ⟨Nat.le_trans this.1 hL2, Nat.le_trans this.2 hL2⟩)
      generalize l ++ rActs N (12 * N + 12) = all at *
      have e3 : ¬ (12 * (N : Int) + 12 < 12 * (N : Int) + 12) := by omega
      go_wp2_with fail
      have hXd : (⟨σ0, sp0', [], []⟩ : StK).doors = [] ∧ (⟨σ0, sp0', [], []⟩ : StK).held = [] := ⟨rfl, rfl⟩
      generalize hX0 : (⟨σ0, sp0', [], []⟩ : StK) = X0 at *
      generalize hB3 : W.heap.size = B3 at *
      have hT0 : Tris W B1 B3 v (.slice none 0 0) (.slice none 0 0) all [] [] := ⟨HOwn.out, fun b hb => by have := (own_block HOwn.out hb).2; omega, World.ownsRow_nil _ _ _ _, World.ownsRow_nil _ _ _ _, fun b hb => (by cases hb), by omega, hz⟩
      refine wp_loop (OrJ all N gf gl (w.heap.size + 1) w.heap.size hs B1 B3 p X0 w) (fun a' _ => all.length - (intOf (a'.tmps.getD 17 undef)).toNat) ?_ ?_
      · subst hX0
        exact ⟨⟨rfl, rfl, rfl, rfl, rfl⟩, 0, _, v, .slice none 0 0, .slice none 0 0, rfl, rfl, rfl, rfl, Nat.zero_le _, rfl, HO.out, HK.out, hT0, HB.out⟩
      · clear HK HB HOwn hT0 HSt HO hX0 e1 e2 e3 hz
        rintro a' W ⟨⟨hsz, hdf, s7, s8, s10⟩, k, x, va, vd, vh, s17, s12, s15, s16, hk, hx, hO, hK, hT, hB⟩
        obtain ⟨u, rfl, hu⟩ := frame170 hsz hdf
        rw [hu] at s7 s8 s10 s17 s12 s15 s16
        simp only [s7, s8, s10, s17, s12, s15, s16]
        clear hsz hdf s7 s8 s10 s17 s12 s15 s16 hu
        have hB31 := hT.2.2.2.2.2.2
        by_cases hlt : k < all.length
        · obtain ⟨b, off, cap2, rfl, c0, c1⟩ := hT.at_ hlt
          have hX : OrX p X0 (all.take (k + 1)) = ordK p x all[k] := by
            unfold OrX at hx ⊢
            rw [List.take_succ_eq_append_getElem hlt, List.foldl_append, hx]
            rfl
          have hbB := (own_block hT.1 (b := b) rfl).1
          obtain ⟨σ, sp, doors, held⟩ := x
          obtain ⟨kd, i, hci⟩ : ∃ kd i, all[k] = ⟨kd, i⟩ := ⟨_, _, rfl⟩
          rw [hci] at c0 c1 hX
          simp only at c0 c1 hO hK hT
          have hO2 := hO.act kd i
          have hSp := Spot_flat hK i
          have hDo := fun W (K : FLAt W gf gl (w.heap.size + 1) w.heap.size hs p σ sp) => do_flat gf gl (w.heap.size + 1) w.heap.size hs p σ sp W K N k hO (by omega) kd i
          have hdv : isDoorK p ⟨σ, sp, doors, held⟩ ⟨kd, i⟩ = decide (kd = 0 ∧ 0 < (spOf sp i).pc ∧ (spOf sp i).pc = doorK p) := rfl
          have hhv : isHoldK p ⟨σ, sp, doors, held⟩ ⟨kd, i⟩ = decide ((spOf sp i).pc < 10 ∧ (spOf (doK p σ sp kd i).2.2 i).pc = 10) := rfl
          have hXe : ordK p ⟨σ, sp, doors, held⟩ ⟨kd, i⟩ = ⟨(doK p σ sp kd i).2.1, (doK p σ sp kd i).2.2, if isDoorK p ⟨σ, sp, doors, held⟩ ⟨kd, i⟩ then doors ++ [i] else doors, if isHoldK p ⟨σ, sp, doors, held⟩ ⟨kd, i⟩ then held ++ [i] else held⟩ := rfl
          rw [hXe] at hX
          clear hXe
          generalize isDoorK p ⟨σ, sp, doors, held⟩ ⟨kd, i⟩ = db at *
          generalize isHoldK p ⟨σ, sp, doors, held⟩ ⟨kd, i⟩ = hb at *
          generalize (doK p σ sp kd i).1 = ok at *
          generalize (doK p σ sp kd i).2.1 = σ2 at *
          generalize (doK p σ sp kd i).2.2 = sp2 at *
          generalize spOf sp i = was at *
          have HX := Lib.hid hX
          have HDv := Lib.hid hdv.symm
          have HHv := Lib.hid hhv.symm
          have HO2 := Lib.hid hO2
          have HDo := Lib.hid hDo
          have HSp := Lib.hid hSp
          have HK := Lib.hid hK
          have HT := Lib.hid hT
          have HB := Lib.hid hB
          have hfl := (fold_len p (all.take k) X0).2
          rw [show (all.take k).foldl (ordK p) X0 = _ from hx, hXd.1, hXd.2] at hfl
          simp only [List.length_nil, Nat.zero_add, List.length_take] at hfl
          have hdl : doors.length ≤ 2000 := by omega
          have hhl : held.length ≤ 2000 := by omega
          clear hfl
          have q1 := fun a b c d W => sfld0 a b c d W
          clear hX hdv hhv hO2 hDo hSp hK hT hB hO hx
          go_wp2_with fail
          refine HSp.out.mono ?_
          rintro e w3 ⟨rfl, hb3⟩
          have HK3 := Lib.hid (HK.out.same hb3)
          have HT3 := Lib.hid (HT.out.same hb3)
          have HB3 := Lib.hid (HB.out.trans (hb3.mono HB.out.size))
          have d0 := keep1 hb3 c0
          have d1 := keep1 hb3 c1
          clear hb3 c0 c1 HSp HK HT HB
          go_wp2_with fail
          refine (HDo.out _ HK3.out).mono ?_
          rintro e W6 ⟨rfl, h6, hm6⟩
          have HK6 := Lib.hid h6
          have HT6 := Lib.hid (HT3.out.mod hm6 (by have := hsz3; simp; omega))
          have HB6 := Lib.hid (HB3.out.trans (hm6.below HB3.out.size (by have := HG.out; simp; omega)))
          have d0 := keepM hm6 d0 (by simp; omega)
          clear h6 hm6 d1 HK3 HT3 HB3
          go_upto_region 24 with fail
          refine wp_cut (OrA N gf gl (w.heap.size + 1) w.heap.size hs B1 B3 p k was.pc (.slice (some ⟨b, off, none⟩) all.length cap2) vd vh db all ⟨σ2, sp2, doors, held⟩ doors w) ?_ ?_
          · clear HK6 HT6 HB6 HDv HDo d0
            rintro a' W8 ⟨⟨hsz, hdf, s7, s8, s10⟩, s17, s12, s15, s16, s18, s111, hK8, hT8, hB8⟩
            obtain ⟨u, rfl, hu⟩ := frame170 hsz hdf
            rw [hu] at s7 s8 s10 s17 s12 s15 s16 s18 s111
            simp only [s7, s8, s10, s17, s12, s15, s16, s18, s111]
            clear hsz hdf s7 s8 s10 s17 s12 s15 s16 s18 s111 hu
            have HK8 := Lib.hid hK8
            have HT8 := Lib.hid hT8
            have HB8 := Lib.hid hB8
            clear hK8 hB8
            have hle := hT8.2.2.2.2.2.1
            have how := hT8.2.2.1
            obtain ⟨_, _, _, hva, _, c1⟩ := hT8.at_ hlt
            cases hva
            rw [hci] at c1
            simp only at c1
            clear hT8
            cases db
            · simp only [Bool.false_eq_true, if_false] at HX
              clear how hle c1
              (try go_upto_region 26 with fail)
              refine wp_cut (OrB N gf gl (w.heap.size + 1) w.heap.size hs B1 B3 p k (.slice (some ⟨b, off, none⟩) all.length cap2) vd vh hb all ⟨σ2, sp2, doors, held⟩ doors w) ?_ ?_
              · clear HHv
                rintro a' W9 ⟨⟨hsz, hdf, s7, s8, s10⟩, s17, s12, s15, s16, s132, hK9, hT9, hB9⟩
                obtain ⟨u, rfl, hu⟩ := frame170 hsz hdf
                rw [hu] at s7 s8 s10 s17 s12 s15 s16 s132
                simp only [s7, s8, s10, s17, s12, s15, s16, s132]
                clear hsz hdf s7 s8 s10 s17 s12 s15 s16 s132 hu
                have HK9 := Lib.hid hK9
                have HT9 := Lib.hid hT9
                have HB9 := Lib.hid hB9
                clear hK9 hB9
                have hle := hT9.2.2.2.2.2.1
                have how := hT9.2.2.2.1
                obtain ⟨_, _, _, hva, _, c1⟩ := hT9.at_ hlt
                cases hva
                rw [hci] at c1
                simp only at c1
                clear hT9
                cases hb
                · go_wp2_with fail
                  exact ⟨⟨⟨rfl, rfl, rfl, rfl, rfl⟩, k + 1, _, _, vd, vh, rfl, rfl, rfl, rfl, hlt, HX.out, HO2.out, HK9.out, HT9.out, HB9.out⟩, by simp [intOf]; omega⟩
                · go_wp2_with (at_builtin; refine wpList_append1_at (.tmp 133) (.tmp 139) 36 3 _ 1 8 rfl rfl Try.underlying36 infoI rfl (by decide) B3 _ _ _ _ _ _ _ _ how rfl rfl ?cgh0 rfl ?d1h0 ?d2h0 ?d3h0 ?d4h0 ?ckh0; case' ckh0 => intro v8 w8 hown8 hg8 hn8)
                  case cgh0 => first | rfl | simp
                  case d1h0 => simp [Value.oneCell']
                  case d2h0 => simp only [maxLen]; omega
                  case d3h0 => omega
                  try (case d4h0 => exact hle)
                  obtain ⟨hT8, hm8, hS8⟩ := HT9.out.hold (i := i) hown8.out hg8.out hn8.out
                  have hK8 := HK9.out.mod hm8 (fun hx => by have := hS8 _ hx; omega) (fun hx => by have := hS8 _ hx; omega) (fun hx => by have := hS8 _ hx; omega) (fun hx => by have := hS8 _ hx; omega) (fun hx => by have := hS8 _ hx; omega)
                  have hB8 := HB9.out.trans (hm8.below HB9.out.size (fun x hx => by have := hS8 _ hx; omega))
                  exact ⟨⟨⟨rfl, rfl, rfl, rfl, rfl⟩, k + 1, _, _, vd, v8, rfl, rfl, rfl, rfl, hlt, HX.out, HO2.out, hK8, hT8, hB8⟩, by simp [intOf]; omega⟩
              · intro J K' hJ hK'
                by_cases hp : was.pc < 10
                · have HSq := Spot_flat HK8.out i
                  generalize spOf sp2 i = sq at *
                  obtain ⟨yp, ya, yb, yc⟩ := sq
                  replace HSq := Lib.hid HSq
                  have q1 := fun a b c d W => sfld0 a b c d W
                  obtain ⟨_, _, _, hva, _, c1⟩ := HT8.out.at_ hlt
                  cases hva
                  rw [hci] at c1
                  simp only at c1
                  by_cases hy : yp = 10
                  · have e9 := ibeq hy
                    have HV := Lib.hid (show Value.bool true = Value.bool hb from congrArg Value.bool ((decide_eq_true (p := was.pc < 10 ∧ yp = 10) ⟨hp, hy⟩).symm.trans HHv.out))
                    clear hy
                    go_wp2_with fail
                    refine HSq.out.mono ?_
                    rintro e w9 ⟨rfl, hb9⟩
                    have HF := Lib.hid (And.intro (HK8.out.same hb9) (And.intro (HT8.out.same hb9) (HB8.out.trans (hb9.mono HB8.out.size))))
                    clear hb9
                    go_wp2_with fail
                    exact Met.intro (hJ _ _ ⟨⟨rfl, rfl, rfl, rfl, rfl⟩, rfl, rfl, rfl, rfl, HV.out, HF.out⟩)
                  · have e9 := ibeq_no hy
                    have HV := Lib.hid (show Value.bool false = Value.bool hb from congrArg Value.bool ((decide_eq_false (p := was.pc < 10 ∧ yp = 10) (fun h => hy h.2)).symm.trans HHv.out))
                    clear hy
                    go_wp2_with fail
                    refine HSq.out.mono ?_
                    rintro e w9 ⟨rfl, hb9⟩
                    have HF := Lib.hid (And.intro (HK8.out.same hb9) (And.intro (HT8.out.same hb9) (HB8.out.trans (hb9.mono HB8.out.size))))
                    clear hb9
                    go_wp2_with fail
                    exact Met.intro (hJ _ _ ⟨⟨rfl, rfl, rfl, rfl, rfl⟩, rfl, rfl, rfl, rfl, HV.out, HF.out⟩)
                · have hp2 : 10 ≤ was.pc := by omega
                  have HV := Lib.hid (show Value.bool false = Value.bool hb by rw [← HHv.out, decide_eq_false (fun h => hp h.1)])
                  have HF := Lib.hid (And.intro HK8.out (And.intro HT8.out HB8.out))
                  clear hp
                  go_wp2_with fail
                  exact Met.intro (hJ _ _ ⟨⟨rfl, rfl, rfl, rfl, rfl⟩, rfl, rfl, rfl, rfl, HV.out, HF.out⟩)
            · simp only [if_true] at HX
              go_upto_region 26 with (at_builtin; refine wpList_append1_at (.tmp 112) (.tmp 118) 36 3 _ 1 8 rfl rfl Try.underlying36 infoI rfl (by decide) B3 _ _ _ _ _ _ _ _ how rfl rfl ?cg119 rfl ?d1119 ?d2119 ?d3119 ?d4119 ?ck119; case' ck119 => intro v7 w7 hown7 hg7 hn7)
              case cg119 => first | rfl | simp
              case d1119 => simp [Value.oneCell']
              case d2119 => simp only [maxLen]; omega
              case d3119 => omega
              try (case d4119 => exact hle)
              obtain ⟨hT7, hm7, hS7⟩ := HT8.out.door (i := i) hown7.out hg7.out hn7.out
              have hK7 := HK8.out.mod hm7 (fun hx => by have := hS7 _ hx; omega) (fun hx => by have := hS7 _ hx; omega) (fun hx => by have := hS7 _ hx; omega) (fun hx => by have := hS7 _ hx; omega) (fun hx => by have := hS7 _ hx; omega)
              have hB7 := HB8.out.trans (hm7.below HB8.out.size (fun x hx => by have := hS7 _ hx; omega))
              have hdl : doors.length + 1 ≤ 2001 := by omega
              clear HK8 HT8 HB8 how hle c1
              have HK8 := Lib.hid hK7
              have HT8 := Lib.hid hT7
              have HB8 := Lib.hid hB7
              clear hK7 hT7 hB7 hown7 hg7 hn7 hm7 hS7
              generalize w7 = W8 at *
              (try go_upto_region 26 with fail)
              refine wp_cut (OrB N gf gl (w.heap.size + 1) w.heap.size hs B1 B3 p k (.slice (some ⟨b, off, none⟩) all.length cap2) v7 vh hb all ⟨σ2, sp2, (doors ++ [i]), held⟩ (doors ++ [i]) w) ?_ ?_
              · clear HHv
                rintro a' W9 ⟨⟨hsz, hdf, s7, s8, s10⟩, s17, s12, s15, s16, s132, hK9, hT9, hB9⟩
                obtain ⟨u, rfl, hu⟩ := frame170 hsz hdf
                rw [hu] at s7 s8 s10 s17 s12 s15 s16 s132
                simp only [s7, s8, s10, s17, s12, s15, s16, s132]
                clear hsz hdf s7 s8 s10 s17 s12 s15 s16 s132 hu
                have HK9 := Lib.hid hK9
                have HT9 := Lib.hid hT9
                have HB9 := Lib.hid hB9
                clear hK9 hB9
                have hle := hT9.2.2.2.2.2.1
                have how := hT9.2.2.2.1
                obtain ⟨_, _, _, hva, _, c1⟩ := hT9.at_ hlt
                cases hva
                rw [hci] at c1
                simp only at c1
                clear hT9
                cases hb
                · go_wp2_with fail
                  exact ⟨⟨⟨rfl, rfl, rfl, rfl, rfl⟩, k + 1, _, _, v7, vh, rfl, rfl, rfl, rfl, hlt, HX.out, HO2.out, HK9.out, HT9.out, HB9.out⟩, by simp [intOf]; omega⟩
                · go_wp2_with (at_builtin; refine wpList_append1_at (.tmp 133) (.tmp 139) 36 3 _ 1 8 rfl rfl Try.underlying36 infoI rfl (by decide) B3 _ _ _ _ _ _ _ _ how rfl rfl ?cgh1 rfl ?d1h1 ?d2h1 ?d3h1 ?d4h1 ?ckh1; case' ckh1 => intro v8 w8 hown8 hg8 hn8)
                  case cgh1 => first | rfl | simp
                  case d1h1 => simp [Value.oneCell']
                  case d2h1 => simp only [maxLen]; omega
                  case d3h1 => omega
                  try (case d4h1 => exact hle)
                  obtain ⟨hT8, hm8, hS8⟩ := HT9.out.hold (i := i) hown8.out hg8.out hn8.out
                  have hK8 := HK9.out.mod hm8 (fun hx => by have := hS8 _ hx; omega) (fun hx => by have := hS8 _ hx; omega) (fun hx => by have := hS8 _ hx; omega) (fun hx => by have := hS8 _ hx; omega) (fun hx => by have := hS8 _ hx; omega)
                  have hB8 := HB9.out.trans (hm8.below HB9.out.size (fun x hx => by have := hS8 _ hx; omega))
                  exact ⟨⟨⟨rfl, rfl, rfl, rfl, rfl⟩, k + 1, _, _, v7, v8, rfl, rfl, rfl, rfl, hlt, HX.out, HO2.out, hK8, hT8, hB8⟩, by simp [intOf]; omega⟩
              · intro J K' hJ hK'
                by_cases hp : was.pc < 10
                · have HSq := Spot_flat HK8.out i
                  generalize spOf sp2 i = sq at *
                  obtain ⟨yp, ya, yb, yc⟩ := sq
                  replace HSq := Lib.hid HSq
                  have q1 := fun a b c d W => sfld0 a b c d W
                  obtain ⟨_, _, _, hva, _, c1⟩ := HT8.out.at_ hlt
                  cases hva
                  rw [hci] at c1
                  simp only at c1
                  by_cases hy : yp = 10
                  · have e9 := ibeq hy
                    have HV := Lib.hid (show Value.bool true = Value.bool hb from congrArg Value.bool ((decide_eq_true (p := was.pc < 10 ∧ yp = 10) ⟨hp, hy⟩).symm.trans HHv.out))
                    clear hy
                    go_wp2_with fail
                    refine HSq.out.mono ?_
                    rintro e w9 ⟨rfl, hb9⟩
                    have HF := Lib.hid (And.intro (HK8.out.same hb9) (And.intro (HT8.out.same hb9) (HB8.out.trans (hb9.mono HB8.out.size))))
                    clear hb9
                    go_wp2_with fail
                    exact Met.intro (hJ _ _ ⟨⟨rfl, rfl, rfl, rfl, rfl⟩, rfl, rfl, rfl, rfl, HV.out, HF.out⟩)
                  · have e9 := ibeq_no hy
                    have HV := Lib.hid (show Value.bool false = Value.bool hb from congrArg Value.bool ((decide_eq_false (p := was.pc < 10 ∧ yp = 10) (fun h => hy h.2)).symm.trans HHv.out))
                    clear hy
                    go_wp2_with fail
                    refine HSq.out.mono ?_
                    rintro e w9 ⟨rfl, hb9⟩
                    have HF := Lib.hid (And.intro (HK8.out.same hb9) (And.intro (HT8.out.same hb9) (HB8.out.trans (hb9.mono HB8.out.size))))
                    clear hb9
                    go_wp2_with fail
                    exact Met.intro (hJ _ _ ⟨⟨rfl, rfl, rfl, rfl, rfl⟩, rfl, rfl, rfl, rfl, HV.out, HF.out⟩)
                · have hp2 : 10 ≤ was.pc := by omega
                  have HV := Lib.hid (show Value.bool false = Value.bool hb by rw [← HHv.out, decide_eq_false (fun h => hp h.1)])
                  have HF := Lib.hid (And.intro HK8.out (And.intro HT8.out HB8.out))
                  clear hp
                  go_wp2_with fail
                  exact Met.intro (hJ _ _ ⟨⟨rfl, rfl, rfl, rfl, rfl⟩, rfl, rfl, rfl, rfl, HV.out, HF.out⟩)
          · intro J K' hJ hK'
            have HF := Lib.hid (And.intro HK6.out (And.intro HT6.out HB6.out))
            by_cases k0 : kd = 0
            · have e0 := ibeq k0
              by_cases p0 : 0 < was.pc
              · by_cases p1 : was.pc = doorK p
                · have e1 := ibeq p1
                  have HV := Lib.hid (show Value.bool true = Value.bool db by rw [← HDv.out]; exact congrArg Value.bool (decide_eq_true (p := kd = 0 ∧ 0 < was.pc ∧ was.pc = doorK p) ⟨k0, p0, p1⟩).symm)
                  have HDr := Lib.hid (fun W => door_fl p W)
                  generalize doorK p = dk at *
                  clear p1 k0
                  go_wp2_with fail
                  refine (HDr.out _).mono ?_
                  rintro e wx ⟨rfl, hwx⟩
                  obtain rfl := hwx.symm
                  go_wp2_with fail
                  exact Met.intro (hJ _ _ ⟨⟨rfl, rfl, rfl, rfl, rfl⟩, rfl, rfl, rfl, rfl, rfl, HV.out, HF.out⟩)
                · have e1 := ibeq_no p1
                  have HV := Lib.hid (show Value.bool false = Value.bool db by rw [← HDv.out]; exact congrArg Value.bool (decide_eq_false (p := kd = 0 ∧ 0 < was.pc ∧ was.pc = doorK p) (fun h => p1 h.2.2)).symm)
                  have HDr := Lib.hid (fun W => door_fl p W)
                  generalize doorK p = dk at *
                  clear p1 k0
                  go_wp2_with fail
                  refine (HDr.out _).mono ?_
                  rintro e wx ⟨rfl, hwx⟩
                  obtain rfl := hwx.symm
                  go_wp2_with fail
                  exact Met.intro (hJ _ _ ⟨⟨rfl, rfl, rfl, rfl, rfl⟩, rfl, rfl, rfl, rfl, rfl, HV.out, HF.out⟩)
              · have p2 : was.pc ≤ 0 := by omega
                have HV := Lib.hid (show Value.bool false = Value.bool db by rw [← HDv.out]; exact congrArg Value.bool (decide_eq_false (p := kd = 0 ∧ 0 < was.pc ∧ was.pc = doorK p) (fun h => p0 h.2.1)).symm)
                clear k0 p0
                go_wp2_with fail
                exact Met.intro (hJ _ _ ⟨⟨rfl, rfl, rfl, rfl, rfl⟩, rfl, rfl, rfl, rfl, rfl, HV.out, HF.out⟩)
            · have e0 := ibeq_no k0
              have HV := Lib.hid (show Value.bool false = Value.bool db by rw [← HDv.out]; exact congrArg Value.bool (decide_eq_false (p := kd = 0 ∧ 0 < was.pc ∧ was.pc = doorK p) (fun h => k0 h.1)).symm)
              clear k0
              go_wp2_with fail
              exact Met.intro (hJ _ _ ⟨⟨rfl, rfl, rfl, rfl, rfl⟩, rfl, rfl, rfl, rfl, rfl, HV.out, HF.out⟩)
        · obtain rfl : k = all.length := by omega
          rw [List.take_length] at hx
          have hE := HEnd.out
          have hD := HDl.out
          rw [hx] at hE hD
          obtain ⟨σ, sp, doors, held⟩ := x
          simp only at hE hD hO hK hT
          obtain ⟨hE1, hE2, hE3⟩ := hE
          obtain ⟨Aa, ca, rfl, _⟩ := own_slice hT.1
          have HE1 := Lib.hid hE1
          have HE2 := Lib.hid hE2
          have HE3 := Lib.hid hE3
          have HK := Lib.hid hK
          have HT := Lib.hid hT
          have HB := Lib.hid hB
          obtain ⟨hD1, hD2⟩ := hD
          clear hE1 hE2 hE3 hK hT hB hO hx HEnd HDl hlt
          go_wp2_with fail
          refine wp_loop (OrE N gf gl (w.heap.size + 1) w.heap.size hs p (.slice Aa all.length ca) vd vh B1 B3 all ⟨σ, sp, doors, held⟩ w) (fun a' _ => N - (intOf (a'.tmps.getD 19 undef)).toNat) ?_ ?_
          · exact ⟨⟨rfl, rfl, rfl, rfl, rfl⟩, rfl, rfl, 0, rfl, Nat.zero_le _, HK.out, HT.out, HB.out⟩
          · clear HK HT HB
            rintro a' W ⟨⟨hsz, hdf, s7, s8, s10⟩, s15, s16, j, s19, hj, hK, hT, hB⟩
            obtain ⟨u, rfl, hu⟩ := frame170 hsz hdf
            rw [hu] at s7 s8 s10 s15 s16 s19
            simp only [s7, s8, s10, s15, s16, s19]
            clear hsz hdf s7 s8 s10 s15 s16 s19 hu
            simp only at hK hT
            have HK := Lib.hid hK
            have HT := Lib.hid hT
            have HB := Lib.hid hB
            clear hK hB
            by_cases hjN : j < N
            · have HSp := Spot_flat HK.out (j : Int)
              have hp := HE1.out (j : Int)
              generalize spOf sp (j : Int) = s at *
              obtain ⟨yp, ya, yb, yc⟩ := s
              simp only at hp
              subst hp
              replace HSp := Lib.hid HSp
              have q1 := fun a b c d W => sfld0 a b c d W
              clear hT
              go_wp2_with fail
              refine HSp.out.mono ?_
              rintro e w3 ⟨rfl, hb3⟩
              have HF := Lib.hid (And.intro (HK.out.same hb3) (And.intro (HT.out.same hb3) (HB.out.trans (hb3.mono HB.out.size))))
              clear hb3
              go_wp2_with fail
              exact ⟨⟨⟨rfl, rfl, rfl, rfl, rfl⟩, rfl, rfl, j + 1, rfl, hjN, HF.out⟩, by simp [intOf]; omega⟩
            · obtain rfl : j = N := by omega
              obtain ⟨Ad, cd, rfl, _, _, hsd⟩ := own_slice hT.2.2.1
              obtain ⟨Ah, ch, rfl, _, _, hsh⟩ := own_slice hT.2.2.2.1
              by_cases h1 : p.num = 1
              · have hd0 := HE2.out h1
                subst hd0
                have e1 := ibeq h1
                generalize p.num = pn at *
                clear h1 hsd hsh hT
                go_wp2_with fail
                refine (awake20 _).mono ?_
                rintro e w5 ⟨rfl, hb5⟩
                go_wp2_with fail
                go_ret
                exact ⟨rfl, HB.out.trans (hb5.mono HB.out.size)⟩
              · have hd0 := HE3.out h1
                subst hd0
                have e1 := ibeq_no h1
                have e2 := ibne h1
                generalize p.num = pn at *
                have HS := Lib.hid (same_tt doors Ad Ah cd ch doors.length W rfl (by omega) (by rw [flatI]; exact hsd) (by rw [flatI]; exact hsh))
                clear h1 hsd hsh hT
                go_wp2_with fail
                refine HS.out.mono ?_
                rintro e w4 ⟨rfl, hb4⟩
                go_wp2_with fail
                refine (awake20 _).mono ?_
                rintro e w5 ⟨rfl, hb5⟩
                go_wp2_with fail
                go_ret
                exact ⟨rfl, HB.out.trans ((hb4.mono HB.out.size).trans (hb5.mono (Nat.le_trans HB.out.size hb4.size)))⟩
set_option maxRecDepth 100000 in
theorem order_law (w : World) (kind : Int) (hk : isU8 kind) (n : Int) (h0 : isU8 n) (A : Option Addr) (c : Nat) (l : List Ac) (hc : l.length ≤ c) (hm : c ≤ maxLen) (_w0 : ∀ e ∈ l, isI64 e.kind ∧ isI64 e.i) (hs : Sl w w.heap.size A (l.flatMap decAc)) (hnil : A = none → c = 0) :
    Calls Try.prog 9 #[.int .u8 kind, .int .u8 n, .slice A l.length c] w fun e w' => e = .returned (.bool true) ∧ Below w.heap.size w w' := by
  by_cases hl : l.length ≤ 100
  · exact order_walk kind n hk.1 hk.2 h0.1 h0.2 l A c w hl hs hnil
  · have i1 : (100 : Int) < (l.length : Int) := by omega
    have i2 : (l.length : Int) ≤ 9223372036854775807 := by simp only [maxLen] at hm; omega
    clear hs
    go_enter Try.func9, Try.ntmps9
    go_wp2_with fail
    refine (awake20 _).mono ?_
    rintro e W9 ⟨rfl, hb9⟩
    go_wp2_with fail
    go_ret
    exact ⟨rfl, hb9⟩
end Go.Proofs.Ythffhhgaeolpgaa.Fl

