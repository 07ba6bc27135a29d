/- Stays of a trace: as the reference looks ahead for them, and as the program goes along: the plain law. -/
import Derived.Test.YtdkggdfofmgdlaaOpen
namespace Go.Proofs.Ytdkggdfofmgdlaa.Sp

structure E where
  kind : Int
  th : Int
  rd : Bool
  ct : Int
@[ext] structure St where
  th : Int
  rd : Bool
  ask : Int
  en : Int
  ex : Int
  re : Int
  ct : Int
def e0 : E := ⟨0, 0, false, 0⟩
def hit (kd t : Int) (e : E) : Bool := decide (e.kind = kd) && decide (e.th = t)
def nxF (kd t : Int) : List E → Nat → Int
  | [], _ => -1
  | e :: r, i => if hit kd t e then (i : Int) else nxF kd t r (i + 1)
def nx (l : List E) (f : Nat) (kd t : Int) : Int := nxF kd t (l.drop f) f
def bh (l : List E) (a kd t : Int) : Int := if a < 0 then -1 else nx l (a.toNat + 1) kd t
/-- The stay that an ask begins. -/
def stay (l : List E) (a : Nat) (e : E) : St :=
  ⟨e.th, e.rd, a, bh l a 2 e.th, bh l (bh l a 2 e.th) 3 e.th, bh l (bh l (bh l a 2 e.th) 3 e.th) 4 e.th, if 0 ≤ bh l a 2 e.th then (l.getD (bh l a 2 e.th).toNat e0).ct else 0⟩
theorem nx_step {l : List E} {f : Nat} (h : f < l.length) (kd t : Int) : nx l f kd t = if hit kd t (l.getD f e0) then (f : Int) else nx l (f + 1) kd t := by
  unfold nx
  rw [List.drop_eq_getElem_cons h, nxF, List.getD_eq_getElem?_getD, List.getElem?_eq_getElem h]
  rfl
theorem nx_end {l : List E} {f : Nat} (h : l.length ≤ f) (kd t : Int) : nx l f kd t = -1 := by
  unfold nx
  rw [List.drop_eq_nil_of_le h]
  rfl
theorem nx_range (l : List E) (kd t : Int) : ∀ (n f : Nat), l.length ≤ f + n → nx l f kd t = -1 ∨ ((f : Int) ≤ nx l f kd t ∧ nx l f kd t < (l.length : Int))
  | 0, f, h => .inl (nx_end (by omega) kd t)
  | n + 1, f, h => by
    by_cases hf : f < l.length
    · rw [nx_step hf]
      split
      · right; omega
      · have := nx_range l kd t n (f + 1) (by omega)
        omega
    · exact .inl (nx_end (by omega) kd t)
theorem bh_range (l : List E) (a kd t : Int) : bh l a kd t = -1 ∨ (0 ≤ a ∧ a < bh l a kd t ∧ bh l a kd t < (l.length : Int)) := by
  unfold bh
  split
  · exact .inl rfl
  · have := nx_range l kd t l.length (a.toNat + 1) (by omega)
    omega
/-- A place that has come already. -/
def cut (k : Nat) (x : Int) : Int := if x < (k : Int) then x else -1
theorem nx_skip {l : List E} {kd t : Int} : ∀ (n f k : Nat), k = f + n → k ≤ l.length → cut k (nx l f kd t) = -1 → nx l f kd t = nx l k kd t
  | 0, f, k, h, _, _ => by subst h; rfl
  | n + 1, f, k, h, hk, hc => by
    have hs := nx_step (l := l) (f := f) (by omega) kd t
    by_cases hh : hit kd t (l.getD f e0) = true
    · rw [if_pos hh] at hs
      rw [hs] at hc
      unfold cut at hc
      rw [if_pos (by omega)] at hc
      omega
    · rw [if_neg hh] at hs
      rw [hs] at hc ⊢
      exact nx_skip n (f + 1) k (by omega) hk hc
/-- What has not come by k comes at k, or not by k + 1. -/
theorem cut_bh {l : List E} {a k : Nat} {kd t : Int} (ha : a < k) (hk : k < l.length) (hc : cut k (bh l a kd t) = -1) : cut (k + 1) (bh l a kd t) = if hit kd t (l.getD k e0) then (k : Int) else -1 := by
  have hb : bh l (a : Int) kd t = nx l (a + 1) kd t := by
    unfold bh
    rw [if_neg (by omega)]
    rfl
  rw [hb] at hc ⊢
  rw [nx_skip (k - (a + 1)) (a + 1) k (by omega) (by omega) hc, nx_step hk]
  have := nx_range l kd t l.length (k + 1) (by omega)
  unfold cut
  split
  · rw [if_pos (by omega)]
  · rcases this with h | h
    · rw [h]; split <;> rfl
    · rw [if_neg (by omega)]
theorem cut_past {k : Nat} {x : Int} (h : 0 ≤ cut k x) : cut k x = x ∧ cut (k + 1) x = x := by
  unfold cut at *
  split at h
  · rename_i hx
    rw [if_pos hx, if_pos (by omega)]
    exact ⟨rfl, rfl⟩
  · omega
theorem cut_late {l : List E} {k : Nat} {a kd t : Int} (h : (k : Int) ≤ a ∨ a < 0) : cut (k + 1) (bh l a kd t) = -1 ∧ cut k (bh l a kd t) = -1 := by
  have := bh_range l a kd t
  unfold cut
  rcases this with h1 | h1
  · rw [h1]; constructor <;> (split <;> rfl)
  · rw [if_neg (by omega), if_neg (by omega)]
    exact ⟨rfl, rfl⟩
theorem cut_neg (k : Nat) (x : Int) (hx : -1 ≤ x) : cut k x = -1 ∨ 0 ≤ cut k x := by
  unfold cut
  split
  · omega
  · exact .inl rfl
def cutS (k : Nat) (s : St) : St := ⟨s.th, s.rd, s.ask, cut k s.en, cut k s.ex, cut k s.re, if 0 ≤ cut k s.en then s.ct else 0⟩
/-- How the program notes an event of a stay that is under way. -/
def noteP (k : Nat) (s : St) (e : E) : St :=
  if e.kind = 2 ∧ s.en < 0 then { s with en := k, ct := e.ct }
  else if e.kind = 3 ∧ 0 ≤ s.en ∧ s.ex < 0 then { s with ex := k }
  else if e.kind = 4 ∧ 0 ≤ s.ex then { s with re := k }
  else s
theorem hit_iff (kd t : Int) (e : E) : hit kd t e = true ↔ e.kind = kd ∧ e.th = t := by simp [hit]
theorem bh_ge (l : List E) (a kd t : Int) : -1 ≤ bh l a kd t := by
  have := bh_range l a kd t
  omega
theorem cut_iff {k : Nat} {x : Int} (hx : -1 ≤ x) : cut k x = -1 ↔ x = -1 ∨ (k : Int) ≤ x := by
  unfold cut
  split <;> omega
/-- One event more: the stay that it belongs to notes it, all others stay as they are. -/
theorem cut_step {l : List E} {a k : Nat} {e : E} (ha : a < k) (hk : k < l.length) (ho : cut k (stay l a e).re = -1) :
    cutS (k + 1) (stay l a e) = if (l.getD k e0).th = e.th then noteP k (cutS k (stay l a e)) (l.getD k e0) else cutS k (stay l a e) := by
  obtain ⟨n, hn⟩ : ∃ n, bh l a 2 e.th = n := ⟨_, rfl⟩
  obtain ⟨x, hx⟩ : ∃ x, bh l n 3 e.th = x := ⟨_, rfl⟩
  obtain ⟨r, hr⟩ : ∃ r, bh l x 4 e.th = r := ⟨_, rfl⟩
  have hst : stay l a e = ⟨e.th, e.rd, a, n, x, r, if 0 ≤ n then (l.getD n.toNat e0).ct else 0⟩ := by
    unfold stay
    rw [hn, hx, hr]
  rw [hst] at ho ⊢
  have gn := bh_ge l a 2 e.th
  have gx := bh_ge l n 3 e.th
  have gr := bh_ge l x 4 e.th
  rw [hn] at gn
  rw [hx] at gx
  rw [hr] at gr
  have rn := bh_range l a 2 e.th
  have rx := bh_range l n 3 e.th
  have rr := bh_range l x 4 e.th
  rw [hn] at rn
  rw [hx] at rx
  rw [hr] at rr
  have cr : ∀ y : Int, -1 ≤ y → cut (k + 1) y = if y = (k : Int) then (k : Int) else cut k y := fun y hy => by
    unfold cut
    split <;> split <;> (try split) <;> omega
  have hn2 : cut k n = -1 → (n = (k : Int) ↔ hit 2 e.th (l.getD k e0) = true) := fun h => by
    have := cut_bh (l := l) (a := a) (k := k) (kd := 2) (t := e.th) ha hk (by rw [hn]; exact h)
    rw [hn, cr n gn] at this
    constructor
    · intro e1
      rw [if_pos e1] at this
      split at this
      · assumption
      · omega
    · intro e1
      rw [if_pos e1] at this
      split at this
      · assumption
      · omega
  have hx2 : 0 ≤ n → n < (k : Int) → cut k x = -1 → (x = (k : Int) ↔ hit 3 e.th (l.getD k e0) = true) := fun h1 h2 h => by
    obtain ⟨m, rfl⟩ := Int.eq_ofNat_of_zero_le h1
    have := cut_bh (l := l) (a := m) (k := k) (kd := 3) (t := e.th) (by omega) hk (by rw [hx]; exact h)
    rw [hx, cr x gx] at this
    constructor
    · intro e1
      rw [if_pos e1] at this
      split at this
      · assumption
      · omega
    · intro e1
      rw [if_pos e1] at this
      split at this
      · assumption
      · omega
  have hr2 : 0 ≤ x → x < (k : Int) → cut k r = -1 → (r = (k : Int) ↔ hit 4 e.th (l.getD k e0) = true) := fun h1 h2 h => by
    obtain ⟨m, rfl⟩ := Int.eq_ofNat_of_zero_le h1
    have := cut_bh (l := l) (a := m) (k := k) (kd := 4) (t := e.th) (by omega) hk (by rw [hr]; exact h)
    rw [hr, cr r gr] at this
    constructor
    · intro e1
      rw [if_pos e1] at this
      split at this
      · assumption
      · omega
    · intro e1
      rw [if_pos e1] at this
      split at this
      · assumption
      · omega
  simp only [hit_iff] at hn2 hx2 hr2
  rw [cut_iff gr] at ho
  have ci := fun y hy => @cut_iff k y hy
  have cv : ∀ y : Int, y < (k : Int) → cut k y = y := fun y h => by unfold cut; rw [if_pos h]
  unfold cutS
  simp only [cr n gn, cr x gx, cr r gr]
  generalize hE : l.getD k e0 = ev at *
  have hk0 : (0 : Int) ≤ (k : Int) := by omega
  have k1 : ¬ (0 : Int) ≤ -1 := by omega
  have k2 : (-1 : Int) < 0 := by omega
  by_cases c1 : 0 ≤ n ∧ n < (k : Int)
  · have B1 : cut k n = n := cv n c1.2
    have nk : n ≠ (k : Int) := by omega
    have n0 : ¬ n < 0 := by omega
    by_cases c2 : 0 ≤ x ∧ x < (k : Int)
    · have B2 : cut k x = x := cv x c2.2
      have xk : x ≠ (k : Int) := by omega
      have x0 : ¬ x < 0 := by omega
      have B3 : cut k r = -1 := (cut_iff gr).2 ho
      have hh := hr2 c2.1 c2.2 B3
      simp only [B1, B2, B3, if_neg nk, if_neg xk, if_pos c1.1]
      by_cases rk : r = (k : Int)
      · obtain ⟨h1, h2⟩ := hh.1 rk
        simp [noteP, h1, h2, rk, c2.1]
      · have h3 : ¬ (ev.kind = 4 ∧ ev.th = e.th) := fun h => rk (hh.2 h)
        by_cases ht : ev.th = e.th
        · have h4 : ¬ ev.kind = 4 := fun h => h3 ⟨h, ht⟩
          simp [noteP, ht, h4, rk, n0, x0]
        · simp [ht, rk]
    · have B2 : cut k x = -1 := (cut_iff gx).2 (by omega)
      have B3 : cut k r = -1 := (cut_iff gr).2 ho
      have rk : r ≠ (k : Int) := by omega
      have hh := hx2 c1.1 c1.2 B2
      simp only [B1, B2, B3, if_neg nk, if_neg rk, if_pos c1.1]
      by_cases xk : x = (k : Int)
      · obtain ⟨h1, h2⟩ := hh.1 xk
        simp [noteP, h1, h2, xk, c1.1]
      · have h3 : ¬ (ev.kind = 3 ∧ ev.th = e.th) := fun h => xk (hh.2 h)
        by_cases ht : ev.th = e.th
        · have h4 : ¬ ev.kind = 3 := fun h => h3 ⟨h, ht⟩
          simp [noteP, ht, h4, xk, n0]
        · simp [ht, xk]
  · have B1 : cut k n = -1 := (cut_iff gn).2 (by omega)
    have B2 : cut k x = -1 := (cut_iff gx).2 (by omega)
    have B3 : cut k r = -1 := (cut_iff gr).2 ho
    have xk : x ≠ (k : Int) := by omega
    have rk : r ≠ (k : Int) := by omega
    have hh := hn2 B1
    simp only [B1, B2, B3, if_neg xk, if_neg rk, if_neg k1]
    by_cases nk : n = (k : Int)
    · obtain ⟨h1, h2⟩ := hh.1 nk
      have c1' : 0 ≤ n := by omega
      have hct : (l.getD n.toNat e0).ct = ev.ct := by rw [nk, Int.toNat_natCast, hE]
      simp only [if_pos nk, h2, if_true, noteP, h1, k2, and_self, if_pos hk0, c1', hct]
    · have h3 : ¬ (ev.kind = 2 ∧ ev.th = e.th) := fun h => nk (hh.2 h)
      by_cases ht : ev.th = e.th
      · have h4 : ¬ ev.kind = 2 := fun h => h3 ⟨h, ht⟩
        simp [noteP, ht, h4, nk]
      · simp [ht, nk]
/-- A stay that is at rest stays as it is. -/
theorem cut_rest {l : List E} {a k : Nat} {e : E} (ho : 0 ≤ cut k (stay l a e).re) : cutS (k + 1) (stay l a e) = cutS k (stay l a e) := by
  have hr := cut_past ho
  have h1 : (stay l a e).re < (k : Int) := by
    unfold cut at ho
    split at ho
    · assumption
    · omega
  have h0 : 0 ≤ (stay l a e).re := by rw [← hr.1]; exact ho
  have rr := bh_range l (stay l a e).ex 4 e.th
  have rx := bh_range l (stay l a e).en 3 e.th
  have e1 : (stay l a e).re = bh l (stay l a e).ex 4 e.th := rfl
  have e2 : (stay l a e).ex = bh l (stay l a e).en 3 e.th := rfl
  rw [← e1] at rr
  rw [← e2] at rx
  have c : ∀ y : Int, y < (k : Int) → cut (k + 1) y = cut k y := fun y h => by
    unfold cut
    rw [if_pos h, if_pos (by omega)]
  unfold cutS
  rw [c _ h1, c _ (show (stay l a e).ex < (k : Int) by omega), c _ (show (stay l a e).en < (k : Int) by omega)]
/-! the two ways -/
def isO (t : Int) (s : St) : Bool := decide (s.th = t) && decide (s.re < 0)
/-- The reference: an ask is heard if the thread's stays are at rest. -/
def stepR (l : List E) (out : List St) (k : Nat) : List St :=
  let e := l.getD k e0
  if e.kind = 1 ∧ ∀ s ∈ out, s.th = e.th → ¬ (s.re < 0 ∨ (k : Int) < s.re) then out ++ [stay l k e] else out
def outR (l : List E) : Nat → List St
  | 0 => []
  | k + 1 => stepR l (outR l k) k
/-- The program: the stay that is under way notes the event. -/
def stepP (out : List St) (k : Nat) (e : E) : List St :=
  if out.any (isO e.th) then out.map fun s => if isO e.th s then noteP k s e else s
  else if e.kind = 1 then out ++ [⟨e.th, e.rd, k, -1, -1, -1, 0⟩] else out
theorem nx_hit {l : List E} {kd t : Int} : ∀ (n f i : Nat), l.length ≤ f + n → nx l f kd t = (i : Int) → hit kd t (l.getD i e0) = true
  | 0, f, i, h, e => by rw [nx_end (by omega)] at e; omega
  | n + 1, f, i, h, e => by
    by_cases hf : f < l.length
    · rw [nx_step hf] at e
      split at e
      · rename_i hh
        obtain rfl : f = i := by omega
        exact hh
      · exact nx_hit n (f + 1) i (by omega) e
    · rw [nx_end (by omega)] at e; omega
theorem bh_hit {l : List E} {a kd t : Int} {i : Nat} (h : bh l a kd t = (i : Int)) : hit kd t (l.getD i e0) = true := by
  unfold bh at h
  split at h
  · omega
  · exact nx_hit l.length _ i (by omega) h
def Asked (l : List E) (k : Nat) (out : List St) : Prop := ∀ s ∈ out, ∃ a e, a < k ∧ s = stay l a e
theorem re_ne {l : List E} {a k : Nat} {e : E} (h1 : (l.getD k e0).kind = 1) : (stay l a e).re ≠ (k : Int) := by
  intro h
  have := (hit_iff _ _ _).1 (bh_hit (l := l) (a := (stay l a e).ex) (kd := 4) (t := e.th) h)
  omega
theorem cut_keep {l : List E} {a k : Nat} {e : E} (ha : a < k) (hk : k < l.length) (h : ¬ isO (l.getD k e0).th (cutS k (stay l a e)) = true) : cutS (k + 1) (stay l a e) = cutS k (stay l a e) := by
  have gr := bh_ge l (stay l a e).ex 4 e.th
  rcases cut_neg k (stay l a e).re gr with ho | ho
  · rw [cut_step ha hk ho, if_neg]
    intro ht
    apply h
    unfold isO cutS
    simp only [ho, Bool.and_eq_true, decide_eq_true_eq]
    exact ⟨ht.symm, by omega⟩
  · exact cut_rest ho
theorem cut_note {l : List E} {a k : Nat} {e : E} (ha : a < k) (hk : k < l.length) (h : isO (l.getD k e0).th (cutS k (stay l a e)) = true) : cutS (k + 1) (stay l a e) = noteP k (cutS k (stay l a e)) (l.getD k e0) := by
  unfold isO at h
  rw [Bool.and_eq_true, decide_eq_true_eq, decide_eq_true_eq] at h
  have gr := bh_ge l (stay l a e).ex 4 e.th
  rcases cut_neg k (stay l a e).re gr with ho | ho
  · have ht : (l.getD k e0).th = e.th := h.1.symm
    rw [cut_step ha hk ho, if_pos ht]
  · have := h.2
    unfold cutS at this
    simp only at this
    omega
theorem cut_new (l : List E) (k : Nat) (e : E) : cutS (k + 1) (stay l k e) = ⟨e.th, e.rd, k, -1, -1, -1, 0⟩ := by
  have r1 := bh_range l (k : Int) 2 e.th
  have r2 := bh_range l (bh l (k : Int) 2 e.th) 3 e.th
  have r3 := bh_range l (bh l (bh l (k : Int) 2 e.th) 3 e.th) 4 e.th
  have c : ∀ y : Int, (y = -1 ∨ (k : Int) < y) → cut (k + 1) y = -1 := fun y h => by
    unfold cut
    split <;> omega
  unfold cutS stay
  simp only
  rw [c _ (by omega), c _ (by omega), c _ (by omega)]
  rfl
/-- Both ways go on alike. -/
theorem step_eq {l : List E} {k : Nat} {out : List St} (hk : k < l.length) (hA : Asked l k out) :
    stepP (out.map (cutS k)) k (l.getD k e0) = (stepR l out k).map (cutS (k + 1)) := by
  unfold stepP stepR
  simp only
  by_cases h : (out.map (cutS k)).any (isO (l.getD k e0).th) = true
  · rw [if_pos h]
    have hno : ¬ ((l.getD k e0).kind = 1 ∧ ∀ s ∈ out, s.th = (l.getD k e0).th → ¬ (s.re < 0 ∨ (k : Int) < s.re)) := by
      rintro ⟨h1, h2⟩
      rw [List.any_eq_true] at h
      obtain ⟨y, hy, ho⟩ := h
      rw [List.mem_map] at hy
      obtain ⟨s, hs, rfl⟩ := hy
      obtain ⟨a, e, ha, rfl⟩ := hA s hs
      unfold isO at ho
      rw [Bool.and_eq_true, decide_eq_true_eq, decide_eq_true_eq] at ho
      have hne := re_ne (l := l) (a := a) (e := e) h1
      have := h2 _ hs ho.1
      have h3 : cut k (stay l a e).re < 0 := ho.2
      unfold cut at h3
      split at h3 <;> omega
    rw [if_neg hno, List.map_map]
    apply List.map_congr_left
    intro s hs
    obtain ⟨a, e, ha, rfl⟩ := hA s hs
    show (if isO (l.getD k e0).th (cutS k (stay l a e)) = true then noteP k (cutS k (stay l a e)) (l.getD k e0) else cutS k (stay l a e)) = _
    by_cases ho : isO (l.getD k e0).th (cutS k (stay l a e)) = true
    · rw [if_pos ho, cut_note ha hk ho]
    · rw [if_neg ho, cut_keep ha hk ho]
  · rw [if_neg h]
    have hcl : ∀ s ∈ out, ¬ isO (l.getD k e0).th (cutS k s) = true := fun s hs ho => h (List.any_eq_true.2 ⟨_, List.mem_map.2 ⟨s, hs, rfl⟩, ho⟩)
    have hm : out.map (cutS k) = out.map (cutS (k + 1)) := by
      apply List.map_congr_left
      intro s hs
      have hc := hcl s hs
      obtain ⟨a, e, ha, rfl⟩ := hA s hs
      exact (cut_keep ha hk hc).symm
    by_cases h1 : (l.getD k e0).kind = 1
    · rw [if_pos h1, if_pos]
      · rw [List.map_append, hm, List.map_cons, List.map_nil, cut_new]
      · refine ⟨h1, fun s hs ht ho => hcl s hs ?_⟩
        unfold isO
        rw [Bool.and_eq_true, decide_eq_true_eq, decide_eq_true_eq]
        refine ⟨ht, ?_⟩
        show cut k s.re < 0
        unfold cut
        split <;> omega
    · rw [if_neg h1, if_neg (fun hh => h1 hh.1), hm]
theorem asked (l : List E) : ∀ k, Asked l k (outR l k)
  | 0 => fun s hs => by cases hs
  | k + 1 => fun s hs => by
    have ih := asked l k
    unfold outR stepR at hs
    simp only at hs
    split at hs
    · rcases List.mem_append.1 hs with hs | hs
      · obtain ⟨a, e, ha, he⟩ := ih s hs
        exact ⟨a, e, by omega, he⟩
      · rw [List.mem_singleton] at hs
        exact ⟨k, _, by omega, hs⟩
    · obtain ⟨a, e, ha, he⟩ := ih s hs
      exact ⟨a, e, by omega, he⟩
def outP (l : List E) : Nat → List St
  | 0 => []
  | k + 1 => stepP (outP l k) k (l.getD k e0)
theorem outP_eq (l : List E) : ∀ k, k ≤ l.length → outP l k = (outR l k).map (cutS k)
  | 0, _ => rfl
  | k + 1, h => by
    show stepP (outP l k) k (l.getD k e0) = _
    rw [outP_eq l k (by omega), step_eq (by omega) (asked l k)]
    rfl
/-- All that comes has come at the end. -/
theorem cut_all {l : List E} {a : Nat} {e : E} : cutS l.length (stay l a e) = stay l a e := by
  have r1 := bh_range l (a : Int) 2 e.th
  have r2 := bh_range l (bh l (a : Int) 2 e.th) 3 e.th
  have r3 := bh_range l (bh l (bh l (a : Int) 2 e.th) 3 e.th) 4 e.th
  have c : ∀ y : Int, y < (l.length : Int) → cut l.length y = y := fun y h => by unfold cut; rw [if_pos h]
  unfold cutS stay
  simp only
  rw [c _ (by omega), c _ (by omega), c _ (by omega)]
  congr 1
  split <;> rfl
theorem of_eq (l : List E) : outP l l.length = outR l l.length := by
  rw [outP_eq l l.length (Nat.le_refl _)]
  conv => rhs; rw [← List.map_id (outR l l.length)]
  apply List.map_congr_left
  intro s hs
  obtain ⟨a, e, _, rfl⟩ := asked l _ s hs
  exact cut_all
end Go.Proofs.Ytdkggdfofmgdlaa.Sp
