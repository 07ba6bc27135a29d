/- Merged texts: SpP, SpQ, FairP, Sn6, Sp1, Sp2, Sn7. -/
import Derived.Test.YthffhhgaeolpgaaGreatSq19
import Derived.Test.YthffhhgaeolpgaaGreatOpen
set_option linter.unusedVariables false
/- Stays of a trace: as the reference looks ahead for them, and as the program goes along: the plain law. -/
namespace Go.Proofs.YthffhhgaeolpgaaGreat.Sp

structure E where
  kind : Int
  th : Int
  rd : Bool
  ct : Int
@[ext] structure St where
  th : Int
  rd : Bool
  ask : Int
  en : Int
  ex : Int
  re : Int
  ct : Int
def e0 : E := ⟨0, 0, false, 0⟩
def hit (kd t : Int) (e : E) : Bool := decide (e.kind = kd) && decide (e.th = t)
def nxF (kd t : Int) : List E → Nat → Int
  | [], _ => -1
  | e :: r, i => if hit kd t e then (i : Int) else nxF kd t r (i + 1)
def nx (l : List E) (f : Nat) (kd t : Int) : Int := nxF kd t (l.drop f) f
def bh (l : List E) (a kd t : Int) : Int := if a < 0 then -1 else nx l (a.toNat + 1) kd t
def stay (l : List E) (a : Nat) (e : E) : St :=
  ⟨e.th, e.rd, a, bh l a 2 e.th, bh l (bh l a 2 e.th) 3 e.th, bh l (bh l (bh l a 2 e.th) 3 e.th) 4 e.th, if 0 ≤ bh l a 2 e.th then (l.getD (bh l a 2 e.th).toNat e0).ct else 0⟩
theorem nx_step {l : List E} {f : Nat} (h : f < l.length) (kd t : Int) : nx l f kd t = if hit kd t (l.getD f e0) then (f : Int) else nx l (f + 1) kd t := by
  unfold nx
  rw [List.drop_eq_getElem_cons h, nxF, List.getD_eq_getElem?_getD, List.getElem?_eq_getElem h]
  rfl
theorem nx_end {l : List E} {f : Nat} (h : l.length ≤ f) (kd t : Int) : nx l f kd t = -1 := by
  unfold nx
  rw [List.drop_eq_nil_of_le h]
  rfl
theorem nx_range (l : List E) (kd t : Int) : ∀ (n f : Nat), l.length ≤ f + n → nx l f kd t = -1 ∨ ((f : Int) ≤ nx l f kd t ∧ nx l f kd t < (l.length : Int))
  | 0, f, h => .inl (nx_end (by omega) kd t)
  | n + 1, f, h => by
    by_cases hf : f < l.length
    · rw [nx_step hf]
      split
      · right; omega
      · have := nx_range l kd t n (f + 1) (by omega)
        omega
    · exact .inl (nx_end (by omega) kd t)
theorem bh_range (l : List E) (a kd t : Int) : bh l a kd t = -1 ∨ (0 ≤ a ∧ a < bh l a kd t ∧ bh l a kd t < (l.length : Int)) := by
  unfold bh
  split
  · exact .inl rfl
  · have := nx_range l kd t l.length (a.toNat + 1) (by omega)
    omega
def cut (k : Nat) (x : Int) : Int := if x < (k : Int) then x else -1
theorem nx_skip {l : List E} {kd t : Int} : ∀ (n f k : Nat), k = f + n → k ≤ l.length → cut k (nx l f kd t) = -1 → nx l f kd t = nx l k kd t
  | 0, f, k, h, _, _ => by subst h; rfl
  | n + 1, f, k, h, hk, hc => by
    have hs := nx_step (l := l) (f := f) (by omega) kd t
    by_cases hh : hit kd t (l.getD f e0) = true
    · rw [if_pos hh] at hs
      rw [hs] at hc
      unfold cut at hc
      rw [if_pos (by omega)] at hc
      omega
    · rw [if_neg hh] at hs
      rw [hs] at hc ⊢
      exact nx_skip n (f + 1) k (by omega) hk hc
theorem cut_bh {l : List E} {a k : Nat} {kd t : Int} (ha : a < k) (hk : k < l.length) (hc : cut k (bh l a kd t) = -1) : cut (k + 1) (bh l a kd t) = if hit kd t (l.getD k e0) then (k : Int) else -1 := by
  have hb : bh l (a : Int) kd t = nx l (a + 1) kd t := by
    unfold bh
    rw [if_neg (by omega)]
    rfl
  rw [hb] at hc ⊢
  rw [nx_skip (k - (a + 1)) (a + 1) k (by omega) (by omega) hc, nx_step hk]
  have := nx_range l kd t l.length (k + 1) (by omega)
  unfold cut
  split
  · rw [if_pos (by omega)]
  · rcases this with h | h
    · rw [h]; split <;> rfl
    · rw [if_neg (by omega)]
theorem cut_past {k : Nat} {x : Int} (h : 0 ≤ cut k x) : cut k x = x ∧ cut (k + 1) x = x := by
  unfold cut at *
  split at h
  · rename_i hx
    rw [if_pos hx, if_pos (by omega)]
    exact ⟨rfl, rfl⟩
  · omega
theorem cut_late {l : List E} {k : Nat} {a kd t : Int} (h : (k : Int) ≤ a ∨ a < 0) : cut (k + 1) (bh l a kd t) = -1 ∧ cut k (bh l a kd t) = -1 := by
  have := bh_range l a kd t
  unfold cut
  rcases this with h1 | h1
  · rw [h1]; constructor <;> (split <;> rfl)
  · rw [if_neg (by omega), if_neg (by omega)]
    exact ⟨rfl, rfl⟩
theorem cut_neg (k : Nat) (x : Int) (hx : -1 ≤ x) : cut k x = -1 ∨ 0 ≤ cut k x := by
  unfold cut
  split
  · omega
  · exact .inl rfl
def cutS (k : Nat) (s : St) : St := ⟨s.th, s.rd, s.ask, cut k s.en, cut k s.ex, cut k s.re, if 0 ≤ cut k s.en then s.ct else 0⟩
def noteP (k : Nat) (s : St) (e : E) : St :=
  if e.kind = 2 ∧ s.en < 0 then { s with en := k, ct := e.ct }
  else if e.kind = 3 ∧ 0 ≤ s.en ∧ s.ex < 0 then { s with ex := k }
  else if e.kind = 4 ∧ 0 ≤ s.ex then { s with re := k }
  else s
theorem hit_iff (kd t : Int) (e : E) : hit kd t e = true ↔ e.kind = kd ∧ e.th = t := by simp [hit]
theorem bh_ge (l : List E) (a kd t : Int) : -1 ≤ bh l a kd t := by
  have := bh_range l a kd t
  omega
theorem cut_iff {k : Nat} {x : Int} (hx : -1 ≤ x) : cut k x = -1 ↔ x = -1 ∨ (k : Int) ≤ x := by
  unfold cut
  split <;> omega
theorem cut_step {l : List E} {a k : Nat} {e : E} (ha : a < k) (hk : k < l.length) (ho : cut k (stay l a e).re = -1) :
    cutS (k + 1) (stay l a e) = if (l.getD k e0).th = e.th then noteP k (cutS k (stay l a e)) (l.getD k e0) else cutS k (stay l a e) := by
  obtain ⟨n, hn⟩ : ∃ n, bh l a 2 e.th = n := ⟨_, rfl⟩
  obtain ⟨x, hx⟩ : ∃ x, bh l n 3 e.th = x := ⟨_, rfl⟩
  obtain ⟨r, hr⟩ : ∃ r, bh l x 4 e.th = r := ⟨_, rfl⟩
  have hst : stay l a e = ⟨e.th, e.rd, a, n, x, r, if 0 ≤ n then (l.getD n.toNat e0).ct else 0⟩ := by
    unfold stay
    rw [hn, hx, hr]
  rw [hst] at ho ⊢
  have gn := bh_ge l a 2 e.th
  have gx := bh_ge l n 3 e.th
  have gr := bh_ge l x 4 e.th
  rw [hn] at gn
  rw [hx] at gx
  rw [hr] at gr
  have rn := bh_range l a 2 e.th
  have rx := bh_range l n 3 e.th
  have rr := bh_range l x 4 e.th
  rw [hn] at rn
  rw [hx] at rx
  rw [hr] at rr
  have cr : ∀ y : Int, -1 ≤ y → cut (k + 1) y = if y = (k : Int) then (k : Int) else cut k y := fun y hy => by
    unfold cut
    split <;> split <;> (try split) <;> omega
  have hn2 : cut k n = -1 → (n = (k : Int) ↔ hit 2 e.th (l.getD k e0) = true) := fun h => by
    have := cut_bh (l := l) (a := a) (k := k) (kd := 2) (t := e.th) ha hk (by rw [hn]; exact h)
    rw [hn, cr n gn] at this
    constructor
    · intro e1
      rw [if_pos e1] at this
      split at this
      · assumption
      · omega
    · intro e1
      rw [if_pos e1] at this
      split at this
      · assumption
      · omega
  have hx2 : 0 ≤ n → n < (k : Int) → cut k x = -1 → (x = (k : Int) ↔ hit 3 e.th (l.getD k e0) = true) := fun h1 h2 h => by
    obtain ⟨m, rfl⟩ := Int.eq_ofNat_of_zero_le h1
    have := cut_bh (l := l) (a := m) (k := k) (kd := 3) (t := e.th) (by omega) hk (by rw [hx]; exact h)
    rw [hx, cr x gx] at this
    constructor
    · intro e1
      rw [if_pos e1] at this
      split at this
      · assumption
      · omega
    · intro e1
      rw [if_pos e1] at this
      split at this
      · assumption
      · omega
  have hr2 : 0 ≤ x → x < (k : Int) → cut k r = -1 → (r = (k : Int) ↔ hit 4 e.th (l.getD k e0) = true) := fun h1 h2 h => by
    obtain ⟨m, rfl⟩ := Int.eq_ofNat_of_zero_le h1
    have := cut_bh (l := l) (a := m) (k := k) (kd := 4) (t := e.th) (by omega) hk (by rw [hr]; exact h)
    rw [hr, cr r gr] at this
    constructor
    · intro e1
      rw [if_pos e1] at this
      split at this
      · assumption
      · omega
    · intro e1
      rw [if_pos e1] at this
      split at this
      · assumption
      · omega
  simp only [hit_iff] at hn2 hx2 hr2
  rw [cut_iff gr] at ho
  have ci := fun y hy => @cut_iff k y hy
  have cv : ∀ y : Int, y < (k : Int) → cut k y = y := fun y h => by unfold cut; rw [if_pos h]
  unfold cutS
  simp only [cr n gn, cr x gx, cr r gr]
  generalize hE : l.getD k e0 = ev at *
  have hk0 : (0 : Int) ≤ (k : Int) := by omega
  have k1 : ¬ (0 : Int) ≤ -1 := by omega
  have k2 : (-1 : Int) < 0 := by omega
  by_cases c1 : 0 ≤ n ∧ n < (k : Int)
  · have B1 : cut k n = n := cv n c1.2
    have nk : n ≠ (k : Int) := by omega
    have n0 : ¬ n < 0 := by omega
    by_cases c2 : 0 ≤ x ∧ x < (k : Int)
    · have B2 : cut k x = x := cv x c2.2
      have xk : x ≠ (k : Int) := by omega
      have x0 : ¬ x < 0 := by omega
      have B3 : cut k r = -1 := (cut_iff gr).2 ho
      have hh := hr2 c2.1 c2.2 B3
      simp only [B1, B2, B3, if_neg nk, if_neg xk, if_pos c1.1]
      by_cases rk : r = (k : Int)
      · obtain ⟨h1, h2⟩ := hh.1 rk
        simp [noteP, h1, h2, rk, c2.1]
      · have h3 : ¬ (ev.kind = 4 ∧ ev.th = e.th) := fun h => rk (hh.2 h)
        by_cases ht : ev.th = e.th
        · have h4 : ¬ ev.kind = 4 := fun h => h3 ⟨h, ht⟩
          simp [noteP, ht, h4, rk, n0, x0]
        · simp [ht, rk]
    · have B2 : cut k x = -1 := (cut_iff gx).2 (by omega)
      have B3 : cut k r = -1 := (cut_iff gr).2 ho
      have rk : r ≠ (k : Int) := by omega
      have hh := hx2 c1.1 c1.2 B2
      simp only [B1, B2, B3, if_neg nk, if_neg rk, if_pos c1.1]
      by_cases xk : x = (k : Int)
      · obtain ⟨h1, h2⟩ := hh.1 xk
        simp [noteP, h1, h2, xk, c1.1]
      · have h3 : ¬ (ev.kind = 3 ∧ ev.th = e.th) := fun h => xk (hh.2 h)
        by_cases ht : ev.th = e.th
        · have h4 : ¬ ev.kind = 3 := fun h => h3 ⟨h, ht⟩
          simp [noteP, ht, h4, xk, n0]
        · simp [ht, xk]
  · have B1 : cut k n = -1 := (cut_iff gn).2 (by omega)
    have B2 : cut k x = -1 := (cut_iff gx).2 (by omega)
    have B3 : cut k r = -1 := (cut_iff gr).2 ho
    have xk : x ≠ (k : Int) := by omega
    have rk : r ≠ (k : Int) := by omega
    have hh := hn2 B1
    simp only [B1, B2, B3, if_neg xk, if_neg rk, if_neg k1]
    by_cases nk : n = (k : Int)
    · obtain ⟨h1, h2⟩ := hh.1 nk
      have c1' : 0 ≤ n := by omega
      have hct : (l.getD n.toNat e0).ct = ev.ct := by rw [nk, Int.toNat_natCast, hE]
      simp only [if_pos nk, h2, if_true, noteP, h1, k2, and_self, if_pos hk0, c1', hct]
    · have h3 : ¬ (ev.kind = 2 ∧ ev.th = e.th) := fun h => nk (hh.2 h)
      by_cases ht : ev.th = e.th
      · have h4 : ¬ ev.kind = 2 := fun h => h3 ⟨h, ht⟩
        simp [noteP, ht, h4, nk]
      · simp [ht, nk]
theorem cut_rest {l : List E} {a k : Nat} {e : E} (ho : 0 ≤ cut k (stay l a e).re) : cutS (k + 1) (stay l a e) = cutS k (stay l a e) := by
  have hr := cut_past ho
  have h1 : (stay l a e).re < (k : Int) := by
    unfold cut at ho
    split at ho
    · assumption
    · omega
  have h0 : 0 ≤ (stay l a e).re := by rw [← hr.1]; exact ho
  have rr := bh_range l (stay l a e).ex 4 e.th
  have rx := bh_range l (stay l a e).en 3 e.th
  have e1 : (stay l a e).re = bh l (stay l a e).ex 4 e.th := rfl
  have e2 : (stay l a e).ex = bh l (stay l a e).en 3 e.th := rfl
  rw [← e1] at rr
  rw [← e2] at rx
  have c : ∀ y : Int, y < (k : Int) → cut (k + 1) y = cut k y := fun y h => by
    unfold cut
    rw [if_pos h, if_pos (by omega)]
  unfold cutS
  rw [c _ h1, c _ (show (stay l a e).ex < (k : Int) by omega), c _ (show (stay l a e).en < (k : Int) by omega)]
/-! the two ways -/
def isO (t : Int) (s : St) : Bool := decide (s.th = t) && decide (s.re < 0)
def stepR (l : List E) (out : List St) (k : Nat) : List St :=
  let e := l.getD k e0
  if e.kind = 1 ∧ ∀ s ∈ out, s.th = e.th → ¬ (s.re < 0 ∨ (k : Int) < s.re) then out ++ [stay l k e] else out
def outR (l : List E) : Nat → List St
  | 0 => []
  | k + 1 => stepR l (outR l k) k
def stepP (out : List St) (k : Nat) (e : E) : List St :=
  if out.any (isO e.th) then out.map fun s => if isO e.th s then noteP k s e else s
  else if e.kind = 1 then out ++ [⟨e.th, e.rd, k, -1, -1, -1, 0⟩] else out
theorem nx_hit {l : List E} {kd t : Int} : ∀ (n f i : Nat), l.length ≤ f + n → nx l f kd t = (i : Int) → hit kd t (l.getD i e0) = true
  | 0, f, i, h, e => by rw [nx_end (by omega)] at e; omega
  | n + 1, f, i, h, e => by
    by_cases hf : f < l.length
    · rw [nx_step hf] at e
      split at e
      · rename_i hh
        obtain rfl : f = i := by omega
        exact hh
      · exact nx_hit n (f + 1) i (by omega) e
    · rw [nx_end (by omega)] at e; omega
theorem bh_hit {l : List E} {a kd t : Int} {i : Nat} (h : bh l a kd t = (i : Int)) : hit kd t (l.getD i e0) = true := by
  unfold bh at h
  split at h
  · omega
  · exact nx_hit l.length _ i (by omega) h
def Asked (l : List E) (k : Nat) (out : List St) : Prop := ∀ s ∈ out, ∃ a e, a < k ∧ s = stay l a e
theorem re_ne {l : List E} {a k : Nat} {e : E} (h1 : (l.getD k e0).kind = 1) : (stay l a e).re ≠ (k : Int) := by
  intro h
  have := (hit_iff _ _ _).1 (bh_hit (l := l) (a := (stay l a e).ex) (kd := 4) (t := e.th) h)
  omega
theorem cut_keep {l : List E} {a k : Nat} {e : E} (ha : a < k) (hk : k < l.length) (h : ¬ isO (l.getD k e0).th (cutS k (stay l a e)) = true) : cutS (k + 1) (stay l a e) = cutS k (stay l a e) := by
  have gr := bh_ge l (stay l a e).ex 4 e.th
  rcases cut_neg k (stay l a e).re gr with ho | ho
  · rw [cut_step ha hk ho, if_neg]
    intro ht
    apply h
    unfold isO cutS
    simp only [ho, Bool.and_eq_true, decide_eq_true_eq]
    exact ⟨ht.symm, by omega⟩
  · exact cut_rest ho
theorem cut_note {l : List E} {a k : Nat} {e : E} (ha : a < k) (hk : k < l.length) (h : isO (l.getD k e0).th (cutS k (stay l a e)) = true) : cutS (k + 1) (stay l a e) = noteP k (cutS k (stay l a e)) (l.getD k e0) := by
  unfold isO at h
  rw [Bool.and_eq_true, decide_eq_true_eq, decide_eq_true_eq] at h
  have gr := bh_ge l (stay l a e).ex 4 e.th
  rcases cut_neg k (stay l a e).re gr with ho | ho
  · have ht : (l.getD k e0).th = e.th := h.1.symm
    rw [cut_step ha hk ho, if_pos ht]
  · have := h.2
    unfold cutS at this
    simp only at this
    omega
theorem cut_new (l : List E) (k : Nat) (e : E) : cutS (k + 1) (stay l k e) = ⟨e.th, e.rd, k, -1, -1, -1, 0⟩ := by
  have r1 := bh_range l (k : Int) 2 e.th
  have r2 := bh_range l (bh l (k : Int) 2 e.th) 3 e.th
  have r3 := bh_range l (bh l (bh l (k : Int) 2 e.th) 3 e.th) 4 e.th
  have c : ∀ y : Int, (y = -1 ∨ (k : Int) < y) → cut (k + 1) y = -1 := fun y h => by
    unfold cut
    split <;> omega
  unfold cutS stay
  simp only
  rw [c _ (by omega), c _ (by omega), c _ (by omega)]
  rfl
theorem step_eq {l : List E} {k : Nat} {out : List St} (hk : k < l.length) (hA : Asked l k out) :
    stepP (out.map (cutS k)) k (l.getD k e0) = (stepR l out k).map (cutS (k + 1)) := by
  unfold stepP stepR
  simp only
  by_cases h : (out.map (cutS k)).any (isO (l.getD k e0).th) = true
  · rw [if_pos h]
    have hno : ¬ ((l.getD k e0).kind = 1 ∧ ∀ s ∈ out, s.th = (l.getD k e0).th → ¬ (s.re < 0 ∨ (k : Int) < s.re)) := by
      rintro ⟨h1, h2⟩
      rw [List.any_eq_true] at h
      obtain ⟨y, hy, ho⟩ := h
      rw [List.mem_map] at hy
      obtain ⟨s, hs, rfl⟩ := hy
      obtain ⟨a, e, ha, rfl⟩ := hA s hs
      unfold isO at ho
      rw [Bool.and_eq_true, decide_eq_true_eq, decide_eq_true_eq] at ho
      have hne := re_ne (l := l) (a := a) (e := e) h1
      have := h2 _ hs ho.1
      have h3 : cut k (stay l a e).re < 0 := ho.2
      unfold cut at h3
      split at h3 <;> omega
    rw [if_neg hno, List.map_map]
    apply List.map_congr_left
    intro s hs
    obtain ⟨a, e, ha, rfl⟩ := hA s hs
    show (if isO (l.getD k e0).th (cutS k (stay l a e)) = true then noteP k (cutS k (stay l a e)) (l.getD k e0) else cutS k (stay l a e)) = _
    by_cases ho : isO (l.getD k e0).th (cutS k (stay l a e)) = true
    · rw [if_pos ho, cut_note ha hk ho]
    · rw [if_neg ho, cut_keep ha hk ho]
  · rw [if_neg h]
    have hcl : ∀ s ∈ out, ¬ isO (l.getD k e0).th (cutS k s) = true := fun s hs ho => h (List.any_eq_true.2 ⟨_, List.mem_map.2 ⟨s, hs, rfl⟩, ho⟩)
    have hm : out.map (cutS k) = out.map (cutS (k + 1)) := by
      apply List.map_congr_left
      intro s hs
      have hc := hcl s hs
      obtain ⟨a, e, ha, rfl⟩ := hA s hs
      exact (cut_keep ha hk hc).symm
    by_cases h1 : (l.getD k e0).kind = 1
    · rw [if_pos h1, if_pos]
      · rw [List.map_append, hm, List.map_cons, List.map_nil, cut_new]
      · refine ⟨h1, fun s hs ht ho => hcl s hs ?_⟩
        unfold isO
        rw [Bool.and_eq_true, decide_eq_true_eq, decide_eq_true_eq]
        refine ⟨ht, ?_⟩
        show cut k s.re < 0
        unfold cut
        split <;> omega
    · rw [if_neg h1, if_neg (fun hh => h1 hh.1), hm]
theorem asked (l : List E) : ∀ k, Asked l k (outR l k)
  | 0 => fun s hs => by cases hs
  | k + 1 => fun s hs => by
    have ih := asked l k
    unfold outR stepR at hs
    simp only at hs
    split at hs
    · rcases List.mem_append.1 hs with hs | hs
      · obtain ⟨a, e, ha, he⟩ := ih s hs
        exact ⟨a, e, by omega, he⟩
      · rw [List.mem_singleton] at hs
        exact ⟨k, _, by omega, hs⟩
    · obtain ⟨a, e, ha, he⟩ := ih s hs
      exact ⟨a, e, by omega, he⟩
def outP (l : List E) : Nat → List St
  | 0 => []
  | k + 1 => stepP (outP l k) k (l.getD k e0)
theorem outP_eq (l : List E) : ∀ k, k ≤ l.length → outP l k = (outR l k).map (cutS k)
  | 0, _ => rfl
  | k + 1, h => by
    show stepP (outP l k) k (l.getD k e0) = _
    rw [outP_eq l k (by omega), step_eq (by omega) (asked l k)]
    rfl
theorem cut_all {l : List E} {a : Nat} {e : E} : cutS l.length (stay l a e) = stay l a e := by
  have r1 := bh_range l (a : Int) 2 e.th
  have r2 := bh_range l (bh l (a : Int) 2 e.th) 3 e.th
  have r3 := bh_range l (bh l (bh l (a : Int) 2 e.th) 3 e.th) 4 e.th
  have c : ∀ y : Int, y < (l.length : Int) → cut l.length y = y := fun y h => by unfold cut; rw [if_pos h]
  unfold cutS stay
  simp only
  rw [c _ (by omega), c _ (by omega), c _ (by omega)]
  congr 1
  split <;> rfl
theorem of_eq (l : List E) : outP l l.length = outR l l.length := by
  rw [outP_eq l l.length (Nat.le_refl _)]
  conv => rhs; rw [← List.map_id (outR l l.length)]
  apply List.map_congr_left
  intro s hs
  obtain ⟨a, e, _, rfl⟩ := asked l _ s hs
  exact cut_all
end Go.Proofs.YthffhhgaeolpgaaGreat.Sp

/- Whether a trace moves and keeps: the plain law of layer 22's Keeps and Moves. -/
namespace Go.Proofs.YthffhhgaeolpgaaGreat.Sp

def entD (out : List St) (j : Nat) : Bool := out.any fun s => decide (s.en = (j : Int))
def wtD (out : List St) (j : Nat) : Bool := out.any fun s => decide (s.ask ≤ (j : Int)) && (decide (s.en < 0) || decide ((j : Int) < s.en))
def waitD (n : Nat) (s : St) : Int := if s.en < 0 then (n : Int) - 1 - s.ask else s.en - s.ask
def keepsD (out : List St) (n : Nat) (within : Int) : Bool := out.all fun s => decide (waitD n s ≤ within)
def nextE (out : List St) (n : Nat) : Nat → Nat
  | 0 => n
  | d + 1 => if entD out (n - (d + 1)) then n - (d + 1) else nextE out n d
def badP (out : List St) (n : Nat) (within : Int) (at_ : Nat) : Bool := wtD out at_ && decide (within < (nextE out n (n - (at_ + 1)) : Int) - (at_ : Int)) && decide (within ≤ (n : Int) - 1 - (at_ : Int))
def someR (out : List St) (n : Nat) (within : Int) (at_ : Nat) : Bool := (List.range n).any fun k => decide ((k : Int) + 1 ≤ within) && entD out (at_ + (k + 1))
def badR (out : List St) (n : Nat) (within : Int) (at_ : Nat) : Bool := wtD out at_ && !decide ((n : Int) - 1 - (at_ : Int) < within) && !someR out n within at_
theorem nextE_spec (out : List St) (n : Nat) : ∀ d, d ≤ n → (n - d ≤ nextE out n d ∧ nextE out n d ≤ n) ∧ (nextE out n d < n → entD out (nextE out n d) = true) ∧ ∀ j, n - d ≤ j → j < nextE out n d → entD out j = false
  | 0, _ => ⟨⟨by simp [nextE], Nat.le_refl _⟩, fun h => by simp [nextE] at h, fun j h1 h2 => by simp [nextE] at h2; omega⟩
  | d + 1, h => by
    obtain ⟨⟨h1, h2⟩, h3, h4⟩ := nextE_spec out n d (by omega)
    unfold nextE
    by_cases he : entD out (n - (d + 1)) = true
    · rw [if_pos he]
      exact ⟨⟨Nat.le_refl _, by omega⟩, fun _ => he, fun j a b => by omega⟩
    · rw [if_neg he]
      refine ⟨⟨by omega, h2⟩, h3, fun j a b => ?_⟩
      by_cases hj : j = n - (d + 1)
      · subst hj
        simpa using he
      · exact h4 j (by omega) b
theorem bad_eq (out : List St) (n : Nat) (within : Int) (at_ : Nat) (h : at_ < n) : badP out n within at_ = badR out n within at_ := by
  unfold badP badR
  cases hw : wtD out at_ with
  | false => simp
  | true =>
    obtain ⟨⟨h1, h2⟩, h3, h4⟩ := nextE_spec out n (n - (at_ + 1)) (by omega)
    rw [show n - (n - (at_ + 1)) = at_ + 1 by omega] at h1 h4
    by_cases hc : (n : Int) - 1 - (at_ : Int) < within
    · have : ¬ within ≤ (n : Int) - 1 - (at_ : Int) := by omega
      simp [hc, this]
    · have hle : within ≤ (n : Int) - 1 - (at_ : Int) := by omega
      have key : someR out n within at_ = true ↔ ¬ within < (nextE out n (n - (at_ + 1)) : Int) - (at_ : Int) := by
        unfold someR
        rw [List.any_eq_true]
        constructor
        · rintro ⟨k, hk, he⟩
          rw [Bool.and_eq_true, decide_eq_true_eq] at he
          intro hlt
          have := h4 (at_ + (k + 1)) (by omega) (by omega)
          rw [this] at he
          exact absurd he.2 (by simp)
        · intro hlt
          have hnn : nextE out n (n - (at_ + 1)) < n := by omega
          refine ⟨nextE out n (n - (at_ + 1)) - at_ - 1, by rw [List.mem_range]; omega, ?_⟩
          rw [Bool.and_eq_true, decide_eq_true_eq]
          refine ⟨by omega, ?_⟩
          rw [show at_ + (nextE out n (n - (at_ + 1)) - at_ - 1 + 1) = nextE out n (n - (at_ + 1)) by omega]
          exact h3 hnn
      by_cases hs : someR out n within at_ = true
      · have := key.1 hs
        simp [hs, this]
      · have hx : within < (nextE out n (n - (at_ + 1)) : Int) - (at_ : Int) := by
          by_cases hy : within < (nextE out n (n - (at_ + 1)) : Int) - (at_ : Int)
          · exact hy
          · exact absurd (key.2 hy) hs
        simp [hs, hx, hle]
def movesD (out : List St) (n : Nat) (within : Int) : Bool := !(List.range n).any (badR out n within)
end Go.Proofs.YthffhhgaeolpgaaGreat.Sp

/- Layer 9, the plain law: by how many picks a script is fair. No Go in sight. -/
namespace Go.Proofs.YthffhhgaeolpgaaGreat.Fai

def scan (n : Nat) : List Int → Nat → List Nat → Nat → List Nat × Nat
  | [], _, last, lg => (last, lg)
  | t :: ts, i, last, lg => if 0 ≤ t ∧ t < n then scan n ts (i + 1) (last.set t.toNat (i + 1)) (max lg (i - last.getD t.toNat 0)) else scan n ts (i + 1) last lg
def gaps (len : Nat) (last : List Nat) (lg : Nat) : Nat := last.foldl (fun m f => max m (len - f)) lg
def longest (n : Nat) (l : List Int) : Nat := gaps l.length (scan n l 0 (List.replicate n 0) 0).1 (scan n l 0 (List.replicate n 0) 0).2

def Has (l : List Int) (t : Nat) (a k : Nat) : Prop := ∃ j, a ≤ j ∧ j < a + k ∧ l[j]? = some (t : Int)
def FairBy (l : List Int) (n k : Nat) : Prop := ∀ a, a + k ≤ l.length → ∀ t, t < n → Has l t a k

structure Inv (n : Nat) (l : List Int) (i : Nat) (last : List Nat) (lg : Nat) : Prop where
  len : last.length = n
  le : ∀ t, t < n → last.getD t 0 ≤ i
  none : ∀ t, t < n → ∀ j, last.getD t 0 ≤ j → j < i → l[j]? ≠ some (t : Int)
  some : ∀ t, t < n → last.getD t 0 = 0 ∨ l[last.getD t 0 - 1]? = some (t : Int)
  gap : ∀ k, 1 ≤ k → (lg < k ↔ ∀ t, t < n → ∀ a, a + k ≤ last.getD t 0 → Has l t a k)
  lgl : lg ≤ i

theorem inv_start (n : Nat) (l : List Int) : Inv n l 0 (List.replicate n 0) 0 := by
  have h0 : ∀ t, (List.replicate n 0).getD t 0 = 0 := by intro t; simp [List.getD, List.getElem?_replicate]; split <;> simp
  refine ⟨by simp, fun t _ => by rw [h0]; exact Nat.le_refl _, fun t _ j h1 h2 => by omega, fun t _ => .inl (h0 t), fun k hk => ?_, Nat.le_refl _⟩
  constructor
  · intro _ t _ a ha
    rw [h0] at ha
    omega
  · intro _
    omega

theorem getD_set (l : List Nat) (i j x : Nat) (hi : i < l.length) : (l.set i x).getD j 0 = if j = i then x else l.getD j 0 := by
  simp only [List.getD, List.getElem?_set]
  by_cases h : i = j
  · subst h; simp [hi]
  · rw [if_neg h, if_neg (fun e => h e.symm)]

theorem inv_miss {n : Nat} {l : List Int} {i : Nat} {last : List Nat} {lg : Nat} (h : Inv n l i last lg) (x : Int) (hx : l[i]? = some x) (hn : ¬ (0 ≤ x ∧ x < n)) : Inv n l (i + 1) last lg := by
  refine ⟨h.len, fun t ht => Nat.le_succ_of_le (h.le t ht), fun t ht j h1 h2 => ?_, h.some, h.gap, Nat.le_succ_of_le h.lgl⟩
  by_cases hj : j < i
  · exact h.none t ht j h1 hj
  · obtain rfl : j = i := by omega
    rw [hx]
    intro e
    injection e with e
    exact hn ⟨by omega, by omega⟩

theorem inv_hit {n : Nat} {l : List Int} {i : Nat} {last : List Nat} {lg : Nat} (h : Inv n l i last lg) (s : Nat) (hx : l[i]? = some (s : Int)) (hs : s < n) :
    Inv n l (i + 1) (last.set s (i + 1)) (max lg (i - last.getD s 0)) := by
  have hsl : s < last.length := by rw [h.len]; exact hs
  have hg : ∀ t, (last.set s (i + 1)).getD t 0 = if t = s then i + 1 else last.getD t 0 := fun t => getD_set last s t (i + 1) hsl
  refine ⟨by simpa using h.len, fun t ht => ?_, fun t ht j h1 h2 => ?_, fun t ht => ?_, fun k hk => ?_, ?_⟩
  · rw [hg]; split
    · exact Nat.le_refl _
    · exact Nat.le_succ_of_le (h.le t ht)
  · rw [hg] at h1
    split at h1
    · omega
    · rename_i hts
      by_cases hj : j < i
      · exact h.none t ht j h1 hj
      · obtain rfl : j = i := by omega
        rw [hx]
        intro e
        injection e with e
        omega
  · rw [hg]; split
    · rename_i hts
      subst hts
      right
      simpa using hx
    · exact h.some t ht
  · have hle := h.le s hs
    constructor
    · intro hm t ht a ha
      rw [hg] at ha
      have hlk : lg < k := by omega
      split at ha
      · rename_i hts
        subst hts
        by_cases h1 : a + k ≤ last.getD t 0
        · exact (h.gap k hk).1 hlk t ht a h1
        · by_cases h2 : a + k = i + 1
          · exact ⟨i, by omega, by omega, hx⟩
          · rcases h.some t ht with h3 | h3
            · rw [h3] at hm h1
              omega
            · by_cases h4 : a ≤ last.getD t 0 - 1
              · have : 0 < last.getD t 0 ∨ last.getD t 0 = 0 := by omega
                rcases this with h5 | h5
                · exact ⟨last.getD t 0 - 1, h4, by omega, h3⟩
                · rw [h5] at hm h1
                  omega
              · omega
      · exact (h.gap k hk).1 hlk t ht a ha
    · intro hall
      have h1 : lg < k := (h.gap k hk).2 fun t ht a ha => hall t ht a (by have := h.le t ht; rw [hg]; split <;> omega)
      by_cases h2 : i - last.getD s 0 < k
      · omega
      · exfalso
        obtain ⟨j, hj1, hj2, hj3⟩ := hall s hs (last.getD s 0) (by rw [hg, if_pos rfl]; omega)
        exact h.none s hs j hj1 (by omega) hj3
  · have := h.lgl; omega

theorem scan_inv {n : Nat} {l : List Int} : ∀ (ts : List Int) (i : Nat) (last : List Nat) (lg : Nat), l.drop i = ts → Inv n l i last lg →
    Inv n l l.length (scan n ts i last lg).1 (scan n ts i last lg).2 := by
  intro ts
  induction ts with
  | nil =>
    intro i last lg hd h
    have hi : l.length ≤ i := by simpa using hd
    refine ⟨h.len, fun t ht => ?_, fun t ht j h1 h2 => h.none t ht j h1 (by omega), h.some, h.gap, ?_⟩
    · have := h.le t ht
      rcases h.some t ht with h1 | h1
      · simp only [scan]; rw [h1]; exact Nat.zero_le _
      · have := (List.getElem?_eq_some_iff.1 h1).1
        simp only [scan]; omega
    · simp only [scan]
      have hk := (h.gap (l.length + 1) (by omega)).2 (fun t ht a ha => by
        exfalso
        rcases h.some t ht with h1 | h1
        · omega
        · have := (List.getElem?_eq_some_iff.1 h1).1
          omega)
      omega
  | cons x ts ih =>
    intro i last lg hd h
    have hi : i < l.length := by
      by_cases hi : i < l.length
      · exact hi
      · rw [List.drop_of_length_le (by omega)] at hd; cases hd
    rw [List.drop_eq_getElem_cons hi] at hd
    injection hd with h1 h2
    have hx : l[i]? = some x := by rw [List.getElem?_eq_getElem hi, h1]
    unfold scan
    split
    · rename_i hc
      obtain ⟨s, rfl⟩ := Int.eq_ofNat_of_zero_le hc.1
      exact ih _ _ _ h2 (inv_hit h s hx (by omega))
    · rename_i hc
      exact ih _ _ _ h2 (inv_miss h x hx hc)

theorem gaps_lt (len : Nat) (last : List Nat) (lg k : Nat) : gaps len last lg < k ↔ lg < k ∧ ∀ f ∈ last, len - f < k := by
  unfold gaps
  induction last generalizing lg with
  | nil => simp
  | cons f fs ih => rw [List.foldl_cons, ih]; simp only [List.mem_cons, forall_eq_or_imp]; constructor
                    · rintro ⟨h1, h2⟩; exact ⟨by omega, by omega, h2⟩
                    · rintro ⟨h1, h2, h3⟩; exact ⟨by omega, h3⟩

theorem longest_lt (n : Nat) (l : List Int) (k : Nat) (hk : 1 ≤ k) : longest n l < k ↔ FairBy l n k := by
  have h := scan_inv (l := l) l 0 _ _ rfl (inv_start n l)
  unfold longest
  generalize (scan n l 0 (List.replicate n 0) 0).1 = last at *
  generalize (scan n l 0 (List.replicate n 0) 0).2 = lg at *
  rw [gaps_lt, h.gap k hk]
  constructor
  · rintro ⟨h1, h2⟩ a ha t ht
    have hg : l.length - last.getD t 0 < k := by
      have hl := h.len
      have : last.getD t 0 ∈ last := by
        rw [List.getD_eq_getElem?_getD, List.getElem?_eq_getElem (by omega)]
        exact List.getElem_mem _
      exact h2 _ this
    by_cases h3 : a + k ≤ last.getD t 0
    · exact h1 t ht a h3
    · rcases h.some t ht with h4 | h4
      · omega
      · by_cases h5 : 0 < last.getD t 0
        · exact ⟨last.getD t 0 - 1, by omega, by omega, h4⟩
        · omega
  · intro hf
    refine ⟨fun t ht a ha => hf a (by have := h.le t ht; omega) t ht, fun f hmem => ?_⟩
    obtain ⟨t, ht, rfl⟩ := List.getElem_of_mem hmem
    have htn : t < n := by rw [← h.len]; exact ht
    have hgd : last.getD t 0 = last[t] := by rw [List.getD_eq_getElem?_getD, List.getElem?_eq_getElem ht]; rfl
    by_cases h1 : l.length - last[t] < k
    · exact h1
    · exfalso
      have hle := h.le t htn
      rw [hgd] at hle
      obtain ⟨j, hj1, hj2, hj3⟩ := hf last[t] (by omega) t htn
      exact h.none t htn j (by rw [hgd]; exact hj1) (List.getElem?_eq_some_iff.1 hj3).1 hj3

theorem longest_le (n : Nat) (l : List Int) : longest n l ≤ l.length := by
  have := (longest_lt n l (l.length + 1) (by omega)).2 (fun a ha => by omega)
  omega
theorem longest_zero (l : List Int) : longest 0 l = 0 := by
  have := (longest_lt 0 l 1 (by omega)).2 (fun a ha t ht => by omega)
  omega
end Go.Proofs.YthffhhgaeolpgaaGreat.Fai

/- A run of threads over a lock that keeps order, from its start: whoever asks enters within as many picks: the plain law. -/
namespace Go.Proofs.YthffhhgaeolpgaaGreat.Sn
open Go.RowKit Go.Proofs.YthffhhgaeolpgaaGreat.Ara Go.Proofs.YthffhhgaeolpgaaGreat.Lok Go.Proofs.YthffhhgaeolpgaaGreat.Fl Go.Proofs.YthffhhgaeolpgaaGreat.Ga

theorem start_q {p : PK} {σ : Ar} {sp : List Sp} {N : Nat} (h : OkK p σ sp N 0) (hT : ∀ P, p ≠ .tas P) (hz : ∀ i, (spOf sp i).pc = 0) : QuK p σ sp [] := by
  cases p with
  | tas P => exact absurd rfl (hT P)
  | tic P =>
    have h : Tk.OkP P σ sp N 0 := h
    obtain ⟨S, T, hi, ht⟩ := h.inv
    exact ⟨S, T, hi, by have := hi.le; show 0 + S = T; omega, fun k hk => absurd hk (Nat.not_lt_zero _)⟩
  | par P =>
    have h : Pt.OkP P σ sp N 0 := h
    obtain ⟨S, T, hi, ht⟩ := h.inv
    exact ⟨S, T, hi, by have := hi.le; show 0 + S = T; omega, fun k hk => absurd hk (Nat.not_lt_zero _)⟩
  | mcs P =>
    have h : Mc.OkP P σ sp N 0 := h
    obtain ⟨q, hi⟩ := h.inv
    cases q with
    | nil => exact hi
    | cons u l =>
      have h1 := QuK.mem (p := .mcs P) hi u
      have := h1.1 (by simp)
      rw [hz u] at this
      have h3 : (3 : Int) < 0 := this
      omega
  | clh P =>
    have h : Cl.OkP P σ sp N 0 := h
    obtain ⟨z, q, hi⟩ := h.inv
    cases q with
    | nil => exact ⟨z, hi⟩
    | cons u l =>
      have h1 := QuK.mem (p := .clh P) (q := u :: l) ⟨z, hi⟩ u
      have := h1.1 (by simp)
      rw [hz u] at this
      have h3 : (2 : Int) < 0 := this
      omega
def rq (p : PK) (ps : List Pl) (x0 : LS) (l : List Int) : Nat → RunS LS × List Int
  | 0 => (⟨x0, fun _ => wn0, []⟩, [])
  | i + 1 => (rn p ps (rq p ps x0 l i).1 (l.getD i 0), qn p ps (rq p ps x0 l i).1 (rq p ps x0 l i).2 (l.getD i 0))
def evR (p : PK) (ps : List Pl) (x0 : LS) (l : List Int) (i : Nat) : Ev3 := evO p ps (rq p ps x0 l i).1 (l.getD i 0)
theorem rq_run (p : PK) (ps : List Pl) (x0 : LS) (l : List Int) : ∀ i, i ≤ l.length → (rq p ps x0 l i).1 = runL stF (actF p) ps x0 (l.take i) := by
  intro i
  induction i with
  | zero => intro _; rfl
  | succ i ih =>
    intro hi
    rw [runL_take stF (actF p) ps x0 l (show i < l.length by omega), ← ih (by omega)]
    show rn p ps (rq p ps x0 l i).1 (l.getD i 0) = _
    rw [List.getD_eq_getElem?_getD, List.getElem?_eq_getElem (show i < l.length by omega)]
    rfl
theorem rq_out (p : PK) (ps : List Pl) (x0 : LS) (l : List Int) : ∀ i, (rq p ps x0 l i).1.out = (List.range i).map (evR p ps x0 l) := by
  intro i
  induction i with
  | zero => rfl
  | succ i ih =>
    rw [List.range_succ, List.map_append, ← ih]
    rfl
theorem out_run (p : PK) (ps : List Pl) (x0 : LS) (l : List Int) : (runL stF (actF p) ps x0 l).out = (List.range l.length).map (evR p ps x0 l) := by
  rw [← rq_out, rq_run p ps x0 l l.length (Nat.le_refl _), List.take_length]
section
variable {p : PK} {ps : List Pl} {N S : Nat} {x0 : LS} {l : List Int} (h0 : OkK p x0.1 x0.2 N 0) (hz : ∀ i, (spOf x0.2 i).pc = 0) (hT : ∀ P, p ≠ .tas P)
  (hS : ∀ u : Int, 0 ≤ u → u < N → 0 ≤ (planOf ps u).stay ∧ (planOf ps u).stay ≤ S)
include h0 hz hT hS
theorem rq_ok (i : Nat) : Rn p ps N S i (rq p ps x0 l i).1 (rq p ps x0 l i).2 := by
  induction i with
  | zero =>
    refine ⟨h0, start_q h0 hT hz, fun u hu => ?_, fun u => by show (0 : Int) ≤ 0; decide⟩
    have hu : (spOf x0.2 u).pc = 10 := hu
    rw [hz u] at hu
    exact absurd hu (by decide)
  | succ i ih => exact ih.next hT (fun u a b => (hS u a b).1) _
theorem asked_enters {k : Nat} (hf : FairBy l N k) (hk : 1 ≤ k) {a : Nat} (ha : (evR p ps x0 l a).1 = 1)
    (hl : a + 1 + k * ((dr p).toNat + (N - 1) * tp p S + (if dr p = 3 then 2 else 1)) ≤ l.length) : ∃ e, a + 1 ≤ e ∧ e < a + 1 + k * ((dr p).toNat + (N - 1) * tp p S + (if dr p = 3 then 2 else 1)) ∧ evR p ps x0 l e = (2, l.getD a 0, 1) := by
  obtain ⟨t, ht⟩ : ∃ t, l.getD a 0 = t := ⟨_, rfl⟩
  have H := rq_ok (p := p) (ps := ps) (l := l) h0 hz hT hS
  have hm := ((H a).move hT t).1
  unfold evR at ha
  rw [ht] at ha ⊢
  have h1 : pcO (rq p ps x0 l (a + 1)).1 t = 1 := by
    show pcO (rn p ps (rq p ps x0 l a).1 (l.getD a 0)) t = 1
    rw [ht]
    cases hm with
    | ask h h' hq he => exact h'
    | idle h h' hq he => rw [he] at ha; simp at ha
    | walk h hd h' hq he => rw [he] at ha; simp at ha
    | door h hd h' hq he => rw [he] at ha; simp at ha
    | door1 h hd h' hh hq he => rw [he] at ha; simp at ha
    | enter h hd hf h' hh hq he => rw [he] at ha; simp at ha
    | spin h hd hf h' hq he => rw [he] at ha; simp at ha
    | hold h h' hh hs hq he => rw [he] at ha; simp at ha
    | leave h h' hs hq he => rw [he] at ha; simp at ha
    | out h h' t hq he => rw [he] at ha; simp at ha
    | going h hd h' hq he => rw [he] at ha; simp at ha
  have hr := (H (a + 1)).rng (u := t) (by omega)
  have hd := dr_le p
  have hd1 : 1 ≤ dr p := by cases p <;> first | exact absurd rfl (hT _) | (show (1 : Int) ≤ _; simp [dr])
  have hD : Dn p ps N S (rq p ps x0 l (a + 1)).1 (rq p ps x0 l (a + 1)).2 t ≤ (dr p).toNat + (N - 1) * tp p S + (if dr p = 3 then 2 else 1) := by
    unfold Dn
    rw [h1, if_pos hd1]
    omega
  exact windows (Wt := fun i => Wtn N (rq p ps x0 l i).1 t) (En := fun i => evR p ps x0 l i = (2, t, 1)) (D := fun i => Dn p ps N S (rq p ps x0 l i).1 (rq p ps x0 l i).2 t) (cr := fun i => crt p (rq p ps x0 l i).1 (rq p ps x0 l i).2 t)
    hf hk (fun i _ hw => (H i).turn hS hT hw (l.getD i 0)) (fun i hw => (H i).crt_in hw) (fun i _ => dn_pos) _ (a + 1) ⟨by omega, by omega, hr⟩ hD hl
end
open Sp (E St e0 nx bh hit stay outR nx_step nx_range keepsD waitD stepR) in
theorem nx_le {l : List E} {kd t : Int} : ∀ n f e : Nat, e = f + n → e < l.length → hit kd t (l.getD e e0) = true → (f : Int) ≤ nx l f kd t ∧ nx l f kd t ≤ (e : Int)
  | 0, f, e, he, hl, hh => by
    rw [nx_step (by omega), show f = e by omega, if_pos hh]
    omega
  | n + 1, f, e, he, hl, hh => by
    rw [nx_step (by omega)]
    split
    · omega
    · have := nx_le n (f + 1) e (by omega) hl hh
      omega
open Sp (E St e0 nx bh hit stay outR nx_step nx_range keepsD waitD stepR) in
theorem outR_kind (l : List E) : ∀ k, k ≤ l.length → ∀ s ∈ outR l k, ∃ a, a < l.length ∧ (l.getD a e0).kind = 1 ∧ s = stay l a (l.getD a e0) := by
  intro k
  induction k with
  | zero => intro _ s hs; simp [outR] at hs
  | succ k ih =>
    intro hk s hs
    have hs : s ∈ stepR l (outR l k) k := hs
    unfold stepR at hs
    dsimp only at hs
    split at hs
    · rename_i hc
      rcases List.mem_append.1 hs with hs | hs
      · exact ih (by omega) s hs
      · exact ⟨k, by omega, hc.1, List.mem_singleton.1 hs⟩
    · exact ih (by omega) s hs
open Sp (E St e0 nx bh hit stay outR nx_step nx_range keepsD waitD stepR bh_range) in
theorem keeps_of {ev : List E} {within : Int} (h : ∀ a, a < ev.length → (ev.getD a e0).kind = 1 → (ev.length : Int) - 1 - a ≤ within ∨ ∃ e, a < e ∧ e < ev.length ∧ (e : Int) - a ≤ within ∧ hit 2 (ev.getD a e0).th (ev.getD e e0) = true) :
    keepsD (outR ev ev.length) ev.length within = true := by
  unfold keepsD
  rw [List.all_eq_true]
  intro s hs
  obtain ⟨a, h1, h2, rfl⟩ := outR_kind ev ev.length (Nat.le_refl _) s hs
  rw [decide_eq_true_eq]
  have hen : (stay ev a (ev.getD a e0)).en = nx ev (a + 1) 2 (ev.getD a e0).th := by
    show bh ev (a : Int) 2 _ = _
    unfold bh
    rw [if_neg (by omega)]
    rfl
  have hask : (stay ev a (ev.getD a e0)).ask = (a : Int) := rfl
  have hrg := nx_range ev 2 (ev.getD a e0).th ev.length (a + 1) (by omega)
  unfold waitD
  rw [hen, hask]
  rcases h a h1 h2 with h3 | ⟨e, h3, h4, h5, h6⟩
  · split <;> omega
  · have := nx_le (e - (a + 1)) (a + 1) e (by omega) h4 h6
    rw [if_neg (by omega)]
    omega
end Go.Proofs.YthffhhgaeolpgaaGreat.Sn

/- Walks of layer 22: parts, may. -/
namespace Go.Proofs.YthffhhgaeolpgaaGreat.Sp
open Go.RowKit

def mayD (t k s : Int) : Bool := decide (1 ≤ t) && decide (t ≤ 32) && decide (1 ≤ k) && decide (k ≤ 4000) && decide (0 ≤ s) && decide (s ≤ 4000)
def isK (kind : Int) : Bool := decide (2 ≤ kind) && decide (kind ≤ 5)
def onceD (kind : Int) : Int := if kind = 4 then 6 else if kind = 5 then 4 else 3
def stepD (kind : Int) : Int := if kind = 4 then 8 else 4
def partsD (kind : Int) : Value := if isK kind then .tuple #[.int .i64 (onceD kind), .int .i64 (stepD kind), .bool true] else .tuple #[.int .i64 0, .int .i64 0, .bool false]
theorem parts_no {kind : Int} (h : ¬ (2 ≤ kind ∧ kind ≤ 5)) : partsD kind = .tuple #[.int .i64 0, .int .i64 0, .bool false] := by
  unfold partsD isK
  rw [if_neg]
  simp only [Bool.and_eq_true, decide_eq_true_eq]
  exact h
theorem parts_any (kind : Int) (w : World) : Calls Tryz.prog 79 #[.int .i64 kind] w fun e w' => e = .returned (partsD kind) ∧ w' = w := by
  by_cases k4 : kind = 4
  · subst k4
    go_enter Tryz.func79, Tryz.ntmps79
    go_wp2_with fail
    go_ret3
    exact ⟨rfl, rfl⟩
  by_cases k5 : kind = 5
  · subst k5
    go_enter Tryz.func79, Tryz.ntmps79
    go_wp2_with fail
    go_ret3
    exact ⟨rfl, rfl⟩
  by_cases k2 : kind = 2
  · subst k2
    go_enter Tryz.func79, Tryz.ntmps79
    go_wp2_with fail
    go_ret3
    exact ⟨rfl, rfl⟩
  by_cases k3 : kind = 3
  · subst k3
    go_enter Tryz.func79, Tryz.ntmps79
    go_wp2_with fail
    go_ret3
    exact ⟨rfl, rfl⟩
  have HN := Lib.hid (parts_no (kind := kind) (by omega))
  have q4 := ibeq_no k4
  have q5 := ibeq_no k5
  have q2 := ibeq_no k2
  have q3 := ibeq_no k3
  clear k2 k3 k4 k5
  go_enter Tryz.func79, Tryz.ntmps79
  go_wp2_with fail
  go_ret3
  exact ⟨by rw [HN.out]; rfl, rfl⟩
theorem may_iff (t k s : Int) : mayD t k s = true ↔ 1 ≤ t ∧ t ≤ 32 ∧ 1 ≤ k ∧ k ≤ 4000 ∧ 0 ≤ s ∧ s ≤ 4000 := by
  unfold mayD
  simp only [Bool.and_eq_true, decide_eq_true_eq, and_assoc]
theorem may_no {t k s : Int} (h : ¬ (1 ≤ t ∧ t ≤ 32 ∧ 1 ≤ k ∧ k ≤ 4000 ∧ 0 ≤ s ∧ s ≤ 4000)) : mayD t k s = false := by
  cases hm : mayD t k s with
  | false => rfl
  | true => exact absurd ((may_iff t k s).1 hm) h
theorem may_any (t k s : Int) (w : World) : Calls Tryz.prog 80 #[.int .i64 t, .int .i64 k, .int .i64 s] w fun e w' => e = .returned (.bool (mayD t k s)) ∧ w' = w := by
  by_cases h1 : 1 ≤ t
  · by_cases h2 : t ≤ 32
    · by_cases h3 : 1 ≤ k
      · by_cases h4 : k ≤ 4000
        · by_cases h5 : 0 ≤ s
          · by_cases h6 : s ≤ 4000
            · have HN := Lib.hid ((may_iff t k s).2 ⟨h1, h2, h3, h4, h5, h6⟩)
              go_enter Tryz.func80, Tryz.ntmps80
              go_wp2_with fail
              go_ret
              exact ⟨by rw [HN.out]; rfl, rfl⟩
            · have HN := Lib.hid (may_no (t := t) (k := k) (s := s) (by omega))
              go_enter Tryz.func80, Tryz.ntmps80
              go_wp2_with fail
              go_ret
              exact ⟨by rw [HN.out]; rfl, rfl⟩
          · have HN := Lib.hid (may_no (t := t) (k := k) (s := s) (by omega))
            go_enter Tryz.func80, Tryz.ntmps80
            go_wp2_with fail
            go_ret
            exact ⟨by rw [HN.out]; rfl, rfl⟩
        · have HN := Lib.hid (may_no (t := t) (k := k) (s := s) (by omega))
          go_enter Tryz.func80, Tryz.ntmps80
          go_wp2_with fail
          go_ret
          exact ⟨by rw [HN.out]; rfl, rfl⟩
      · have HN := Lib.hid (may_no (t := t) (k := k) (s := s) (by omega))
        go_enter Tryz.func80, Tryz.ntmps80
        go_wp2_with fail
        go_ret
        exact ⟨by rw [HN.out]; rfl, rfl⟩
    · have HN := Lib.hid (may_no (t := t) (k := k) (s := s) (by omega))
      go_enter Tryz.func80, Tryz.ntmps80
      go_wp2_with fail
      go_ret
      exact ⟨by rw [HN.out]; rfl, rfl⟩
  · have HN := Lib.hid (may_no (t := t) (k := k) (s := s) (by omega))
    go_enter Tryz.func80, Tryz.ntmps80
    go_wp2_with fail
    go_ret
    exact ⟨by rw [HN.out]; rfl, rfl⟩
end Go.Proofs.YthffhhgaeolpgaaGreat.Sp

/- Walks of layer 22: Each, Some, of the program and of the reference. -/
namespace Go.Proofs.YthffhhgaeolpgaaGreat.Sp
open Go.RowKit
def eachD (kind t k s : Int) : Int := if isK kind = true ∧ mayD t k s = true then k * (onceD kind + (t - 1) * (s + stepD kind)) else 0
def someD (kind t k s par : Int) : Int := if kind = 1 then (if mayD t k s = true ∧ 1 ≤ par ∧ par ≤ 1024 then k * (s + par + 4) else 0) else eachD kind t k s
theorem bnd {t k s o e : Int} (h : mayD t k s = true) (ho : 3 ≤ o ∧ o ≤ 6) (he : 4 ≤ e ∧ e ≤ 8) : (0 ≤ (t - 1) * (s + e) ∧ (t - 1) * (s + e) ≤ 124248) ∧ 0 ≤ k * (o + (t - 1) * (s + e)) ∧ k * (o + (t - 1) * (s + e)) ≤ 500000000 := by
  obtain ⟨h1, h2, h3, h4, h5, h6⟩ := (may_iff t k s).1 h
  have a : 0 ≤ (t - 1) * (s + e) := Int.mul_nonneg (by omega) (by omega)
  have b : (t - 1) * (s + e) ≤ 31 * 4008 := Int.mul_le_mul (by omega) (by omega) (by omega) (by omega)
  generalize (t - 1) * (s + e) = P at *
  have c : 0 ≤ k * (o + P) := Int.mul_nonneg (by omega) (by omega)
  have d : k * (o + P) ≤ 4000 * 124254 := Int.mul_le_mul (by omega) (by omega) (by omega) (by omega)
  exact ⟨⟨a, by omega⟩, c, by omega⟩
theorem bnd2 {t k s p : Int} (h : mayD t k s = true) (hp : 1 ≤ p ∧ p ≤ 1024) : 0 ≤ k * (s + p + 4) ∧ k * (s + p + 4) ≤ 500000000 := by
  obtain ⟨h1, h2, h3, h4, h5, h6⟩ := (may_iff t k s).1 h
  have c : 0 ≤ k * (s + p + 4) := Int.mul_nonneg (by omega) (by omega)
  have d : k * (s + p + 4) ≤ 4000 * 5028 := Int.mul_le_mul (by omega) (by omega) (by omega) (by omega)
  exact ⟨c, by omega⟩
theorem once_in (kind : Int) : 3 ≤ onceD kind ∧ onceD kind ≤ 6 := by unfold onceD; split <;> (try split) <;> omega
theorem step_in (kind : Int) : 4 ≤ stepD kind ∧ stepD kind ≤ 8 := by unfold stepD; split <;> omega
theorem each_any (kind t k s : Int) (w : World) : Calls Tryz.prog 47 #[.int .i64 kind, .int .i64 t, .int .i64 k, .int .i64 s] w fun e w' => e = .returned (.int .i64 (eachD kind t k s)) ∧ w' = w := by
  have hP := parts_any kind w
  have hM := may_any t k s w
  unfold partsD at hP
  cases hk : isK kind with
  | false =>
    rw [hk] at hP
    have HN := Lib.hid (show eachD kind t k s = 0 by unfold eachD; rw [hk, if_neg (by simp)])
    have HP := Lib.hid hP
    clear hP hM hk
    go_enter Tryz.func47, Tryz.ntmps47
    go_wp2_with fail
    refine (HP.out).mono ?_
    rintro e wx ⟨rfl, hwx⟩
    obtain rfl := hwx.symm
    go_wp2_with fail
    go_ret
    exact ⟨by rw [HN.out]; rfl, rfl⟩
  | true =>
    rw [hk] at hP
    have HP := Lib.hid hP
    cases hm : mayD t k s with
    | false =>
      have HN := Lib.hid (show eachD kind t k s = 0 by unfold eachD; rw [hm, if_neg (by simp)])
      rw [hm] at hM
      have HM := Lib.hid hM
      clear hP hM hk hm
      go_enter Tryz.func47, Tryz.ntmps47
      go_wp2_with fail
      refine (HP.out).mono ?_
      rintro e wx ⟨rfl, hwx⟩
      obtain rfl := hwx.symm
      go_wp2_with fail
      refine (HM.out).mono ?_
      rintro e wx ⟨rfl, hwx⟩
      obtain rfl := hwx.symm
      go_wp2_with fail
      go_ret
      exact ⟨by rw [HN.out]; rfl, rfl⟩
    | true =>
      have HN := Lib.hid (show eachD kind t k s = k * (onceD kind + (t - 1) * (s + stepD kind)) by unfold eachD; rw [if_pos ⟨hk, hm⟩])
      have ho := once_in kind
      have he := step_in kind
      obtain ⟨⟨b1, b2⟩, b3, b4⟩ := bnd hm ho he
      obtain ⟨h1, h2, h3, h4, h5, h6⟩ := (may_iff t k s).1 hm
      rw [hm] at hM
      have HM := Lib.hid hM
      rw [HN.out]
      generalize onceD kind = o at *
      generalize stepD kind = e at *
      clear hP hM hk hm HN
      have w1 : IntKind.i64.wrap (t - 1) = t - 1 := IntWalk.i64_in _ (by omega)
      have w2 : IntKind.i64.wrap (s + e) = s + e := IntWalk.i64_in _ (by omega)
      have w3 : IntKind.i64.wrap ((t - 1) * (s + e)) = (t - 1) * (s + e) := IntWalk.i64_in _ (by omega)
      have w4 : IntKind.i64.wrap (o + (t - 1) * (s + e)) = o + (t - 1) * (s + e) := IntWalk.i64_in _ (by omega)
      have w5 : IntKind.i64.wrap (k * (o + (t - 1) * (s + e))) = k * (o + (t - 1) * (s + e)) := IntWalk.i64_in _ (by omega)
      go_enter Tryz.func47, Tryz.ntmps47
      go_wp2_with fail
      refine (HP.out).mono ?_
      rintro e wx ⟨rfl, hwx⟩
      obtain rfl := hwx.symm
      go_wp2_with fail
      refine (HM.out).mono ?_
      rintro e wx ⟨rfl, hwx⟩
      obtain rfl := hwx.symm
      go_wp2_with fail
      go_ret
      exact ⟨rfl, rfl⟩
theorem some_one {kind t k s par : Int} (h : kind = 1) : someD kind t k s par = if mayD t k s = true ∧ 1 ≤ par ∧ par ≤ 1024 then k * (s + par + 4) else 0 := by unfold someD; rw [if_pos h]
theorem some_any (kind t k s par : Int) (w : World) : Calls Tryz.prog 49 #[.int .i64 kind, .int .i64 t, .int .i64 k, .int .i64 s, .int .i64 par] w fun e w' => e = .returned (.int .i64 (someD kind t k s par)) ∧ w' = w := by
  have hM := may_any t k s w
  have hE := each_any kind t k s w
  by_cases k1 : kind = 1
  · cases hm : mayD t k s with
    | false =>
      have HN := Lib.hid (show someD kind t k s par = 0 by rw [some_one k1, if_neg (by simp [hm]; try omega)])
      rw [hm] at hM
      have HM := Lib.hid hM
      have q := ibne_no k1
      clear hM hm hE
      go_enter Tryz.func49, Tryz.ntmps49
      go_wp2_with fail
      refine (HM.out).mono ?_
      rintro e wx ⟨rfl, hwx⟩
      obtain rfl := hwx.symm
      go_wp2_with fail
      go_ret
      exact ⟨by rw [HN.out]; rfl, rfl⟩
    | true =>
      by_cases p1 : par < 1
      · have HN := Lib.hid (show someD kind t k s par = 0 by rw [some_one k1, if_neg (by simp [hm]; try omega)])
        rw [hm] at hM
        have HM := Lib.hid hM
        have q := ibne_no k1
        clear hM hm hE
        go_enter Tryz.func49, Tryz.ntmps49
        go_wp2_with fail
        refine (HM.out).mono ?_
        rintro e wx ⟨rfl, hwx⟩
        obtain rfl := hwx.symm
        go_wp2_with fail
        go_ret
        exact ⟨by rw [HN.out]; rfl, rfl⟩
      · by_cases p2 : 1024 < par
        · have HN := Lib.hid (show someD kind t k s par = 0 by rw [some_one k1, if_neg (by simp [hm]; try omega)])
          rw [hm] at hM
          have HM := Lib.hid hM
          have q := ibne_no k1
          clear hM hm hE
          go_enter Tryz.func49, Tryz.ntmps49
          go_wp2_with fail
          refine (HM.out).mono ?_
          rintro e wx ⟨rfl, hwx⟩
          obtain rfl := hwx.symm
          go_wp2_with fail
          go_ret
          exact ⟨by rw [HN.out]; rfl, rfl⟩
        · have HN := Lib.hid (show someD kind t k s par = k * (s + par + 4) by rw [some_one k1, if_pos ⟨hm, by omega, by omega⟩])
          obtain ⟨b3, b4⟩ := bnd2 (p := par) hm (by omega)
          obtain ⟨h1, h2, h3, h4, h5, h6⟩ := (may_iff t k s).1 hm
          rw [hm] at hM
          have HM := Lib.hid hM
          have q := ibne_no k1
          clear hM hm hE
          have w1 : IntKind.i64.wrap (s + par) = s + par := IntWalk.i64_in _ (by omega)
          have w2 : IntKind.i64.wrap (s + par + 4) = s + par + 4 := IntWalk.i64_in _ (by omega)
          have w5 : IntKind.i64.wrap (k * (s + par + 4)) = k * (s + par + 4) := IntWalk.i64_in _ (by omega)
          go_enter Tryz.func49, Tryz.ntmps49
          go_wp2_with fail
          refine (HM.out).mono ?_
          rintro e wx ⟨rfl, hwx⟩
          obtain rfl := hwx.symm
          go_wp2_with fail
          go_ret
          exact ⟨by rw [HN.out]; rfl, rfl⟩
  · have HN := Lib.hid (show someD kind t k s par = eachD kind t k s by unfold someD; rw [if_neg k1])
    have HE := Lib.hid hE
    have q := ibne k1
    clear hM hE
    go_enter Tryz.func49, Tryz.ntmps49
    go_wp2_with fail
    refine (HE.out).mono ?_
    rintro e wx ⟨rfl, hwx⟩
    obtain rfl := hwx.symm
    go_wp2_with fail
    go_ret
    exact ⟨by rw [HN.out]; rfl, rfl⟩
end Go.Proofs.YthffhhgaeolpgaaGreat.Sp

/- What comes of a run keeps what the law tells: the plain law of SpanEach. -/
namespace Go.Proofs.YthffhhgaeolpgaaGreat.Sn
open Go.RowKit Go.Proofs.YthffhhgaeolpgaaGreat.Ara Go.Proofs.YthffhhgaeolpgaaGreat.Lok Go.Proofs.YthffhhgaeolpgaaGreat.Fl Go.Proofs.YthffhhgaeolpgaaGreat.Ga

theorem fair_of {l : List Int} {N k : Nat} (h : Fai.FairBy l N k) : FairBy l N k := by
  intro i hi c c0 c1
  obtain ⟨n, rfl⟩ := Int.eq_ofNat_of_zero_le c0
  obtain ⟨j, h1, h2, h3⟩ := h i hi n (by omega)
  exact ⟨j, h1, h2, by rw [List.getD_eq_getElem?_getD, h3]; rfl⟩
def evE (e : Ev3) : Sp.E := ⟨e.1, e.2.1, false, e.2.2⟩
theorem asks_run {kind : Int} (hk2 : 2 ≤ kind ∧ kind ≤ 5) {par : Int} {N S : Nat} (hN : 1 ≤ N ∧ N ≤ 32) (hSm : S ≤ 4000) {ps : List Pl} {x0 : LS} {l : List Int} (h0 : OkK (pkK kind par 1) x0.1 x0.2 N 0) (hz : ∀ i, (spOf x0.2 i).pc = 0)
    (hS : ∀ u : Int, 0 ≤ u → u < N → 0 ≤ (planOf ps u).stay ∧ (planOf ps u).stay ≤ S) {k : Nat} (hf : FairBy l N k) (hk : 1 ≤ k ∧ k ≤ 4000) {ev : List Sp.E}
    (he : ev = (runL stF (actF (pkK kind par 1)) ps x0 l).out.map evE) : ∀ a, a < ev.length → (ev.getD a Sp.e0).kind = 1 → (ev.length : Int) - 1 - a < Sp.eachD kind N k S ∨ ∃ e, a < e ∧ e < ev.length ∧ (e : Int) - a ≤ Sp.eachD kind N k S ∧ Sp.hit 2 (ev.getD a Sp.e0).th (ev.getD e Sp.e0) = true := by
  have hT : ∀ P, pkK kind par 1 ≠ .tas P := by
    intro P hp
    unfold pkK at hp
    rw [if_neg (by omega)] at hp
    repeat' split at hp
    all_goals cases hp
  rw [out_run] at he
  have hlen : ev.length = l.length := by rw [he]; simp
  have hev : ∀ a, a < l.length → ev.getD a Sp.e0 = evE (evR (pkK kind par 1) ps x0 l a) := by
    intro a ha
    rw [he, List.getD_eq_getElem?_getD, List.getElem?_map, List.getElem?_map, List.getElem?_range ha]
    rfl
  have hB : (k : Int) * ((((dr (pkK kind par 1)).toNat + (N - 1) * tp (pkK kind par 1) S + (if dr (pkK kind par 1) = 3 then 2 else 1) : Nat) : Int)) ≤ Sp.eachD kind N k S := by
    have hm : Sp.mayD N k S = true := (Sp.may_iff _ _ _).2 ⟨by omega, by omega, by omega, by omega, by omega, by omega⟩
    have hi : Sp.isK kind = true := by unfold Sp.isK; simp; exact hk2
    have hE : Sp.eachD kind N k S = (k : Int) * (Sp.onceD kind + ((N : Int) - 1) * ((S : Int) + Sp.stepD kind)) := by unfold Sp.eachD; exact if_pos (And.intro hi hm)
    rw [hE]
    refine Int.mul_le_mul_of_nonneg_left ?_ (Int.natCast_nonneg k)
    have hN1 : ((N : Int) - 1) = ((N - 1 : Nat) : Int) := by omega
    rw [hN1]
    rcases (show kind = 2 ∨ kind = 3 ∨ kind = 4 ∨ kind = 5 by omega) with rfl | rfl | rfl | rfl
    · have e1 : dr (pkK 2 par 1) = 1 := rfl
      have e2 : tp (pkK 2 par 1) S = S + 3 := by unfold tp; rw [e1, if_neg (by decide)]
      rw [e1, e2, if_neg (by decide)]
      show _ ≤ (3 : Int) + ((N - 1 : Nat) : Int) * ((S : Int) + 4)
      have := Nat.mul_le_mul_left (N - 1) (show S + 3 ≤ S + 4 by omega)
      have h2 : (((N - 1) * (S + 4) : Nat) : Int) = ((N - 1 : Nat) : Int) * ((S : Int) + 4) := by simp
      omega
    · have e1 : dr (pkK 3 par 1) = 1 := rfl
      have e2 : tp (pkK 3 par 1) S = S + 3 := by unfold tp; rw [e1, if_neg (by decide)]
      rw [e1, e2, if_neg (by decide)]
      show _ ≤ (3 : Int) + ((N - 1 : Nat) : Int) * ((S : Int) + 4)
      have := Nat.mul_le_mul_left (N - 1) (show S + 3 ≤ S + 4 by omega)
      have h2 : (((N - 1) * (S + 4) : Nat) : Int) = ((N - 1 : Nat) : Int) * ((S : Int) + 4) := by simp
      omega
    · have e1 : dr (pkK 4 par 1) = 3 := rfl
      have e2 : tp (pkK 4 par 1) S = S + 7 := by unfold tp; rw [e1, if_pos rfl]
      rw [e1, e2, if_pos rfl]
      show _ ≤ (6 : Int) + ((N - 1 : Nat) : Int) * ((S : Int) + 8)
      have := Nat.mul_le_mul_left (N - 1) (show S + 7 ≤ S + 8 by omega)
      have h2 : (((N - 1) * (S + 8) : Nat) : Int) = ((N - 1 : Nat) : Int) * ((S : Int) + 8) := by simp
      omega
    · have e1 : dr (pkK 5 par 1) = 2 := rfl
      have e2 : tp (pkK 5 par 1) S = S + 3 := by unfold tp; rw [e1, if_neg (by decide)]
      rw [e1, e2, if_neg (by decide)]
      show _ ≤ (4 : Int) + ((N - 1 : Nat) : Int) * ((S : Int) + 4)
      have := Nat.mul_le_mul_left (N - 1) (show S + 3 ≤ S + 4 by omega)
      have h2 : (((N - 1) * (S + 4) : Nat) : Int) = ((N - 1 : Nat) : Int) * ((S : Int) + 4) := by simp
      omega
  intro a ha hkd
  rw [hlen] at ha ⊢
  rw [hev a ha] at hkd ⊢
  generalize hD : (dr (pkK kind par 1)).toNat + (N - 1) * tp (pkK kind par 1) S + (if dr (pkK kind par 1) = 3 then 2 else 1) = D at hB
  have hkD : ((k * D : Nat) : Int) ≤ Sp.eachD kind N k S := by rw [Int.natCast_mul]; exact hB
  by_cases hl : a + 1 + k * D ≤ l.length
  · right
    have hth : (evE (evR (pkK kind par 1) ps x0 l a)).th = l.getD a 0 := by
      have h1 : (evR (pkK kind par 1) ps x0 l a).1 = 1 := hkd
      have hm := ((rq_ok (p := pkK kind par 1) (ps := ps) (l := l) h0 hz hT hS a).move hT (l.getD a 0)).1
      unfold evR at h1
      show (evR (pkK kind par 1) ps x0 l a).2.1 = _
      unfold evR
      cases hm with
      | ask h h' hq he => rw [he]
      | idle h h' hq he => rw [he] at h1; simp at h1
      | walk h hd h' hq he => rw [he] at h1; simp at h1
      | door h hd h' hq he => rw [he] at h1; simp at h1
      | door1 h hd h' hh hq he => rw [he] at h1; simp at h1
      | enter h hd hf h' hh hq he => rw [he] at h1; simp at h1
      | spin h hd hf h' hq he => rw [he] at h1; simp at h1
      | hold h h' hh hs hq he => rw [he] at h1; simp at h1
      | leave h h' hs hq he => rw [he] at h1; simp at h1
      | out h h' t hq he => rw [he] at h1; simp at h1
      | going h hd h' hq he => rw [he] at h1; simp at h1
    obtain ⟨e, e1, e2, e3⟩ := asked_enters (p := pkK kind par 1) (ps := ps) (l := l) h0 hz hT hS hf hk.1 (a := a) hkd (by rw [hD]; exact hl)
    rw [hD] at e2
    refine ⟨e, by omega, by omega, by omega, ?_⟩
    rw [hev e (by omega), hth, e3]
    simp [Sp.hit, evE]
  · left
    omega
theorem each_run {kind : Int} (hk2 : 2 ≤ kind ∧ kind ≤ 5) {par : Int} {N S : Nat} (hN : 1 ≤ N ∧ N ≤ 32) (hSm : S ≤ 4000) {ps : List Pl} {x0 : LS} {l : List Int} (h0 : OkK (pkK kind par 1) x0.1 x0.2 N 0) (hz : ∀ i, (spOf x0.2 i).pc = 0)
    (hS : ∀ u : Int, 0 ≤ u → u < N → 0 ≤ (planOf ps u).stay ∧ (planOf ps u).stay ≤ S) {k : Nat} (hf : FairBy l N k) (hk : 1 ≤ k ∧ k ≤ 4000) {ev : List Sp.E}
    (he : ev = (runL stF (actF (pkK kind par 1)) ps x0 l).out.map evE) : Sp.keepsD (Sp.outR ev ev.length) ev.length (Sp.eachD kind N k S) = true := by
  refine keeps_of fun a ha hkd => ?_
  rcases asks_run hk2 hN hSm h0 hz hS hf hk he a ha hkd with h | h
  · exact .inl (by omega)
  · exact .inr h
end Go.Proofs.YthffhhgaeolpgaaGreat.Sn

