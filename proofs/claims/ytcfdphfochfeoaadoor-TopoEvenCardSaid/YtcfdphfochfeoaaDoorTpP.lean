/- Trees of parents, their leaves and depths; trees that part evenly: the plain law. -/
import Derived.Test.YtcfdphfochfeoaaDoorDeP
namespace Go.Proofs.YtcfdphfochfeoaaDoor.Tp

/-- A tree: the root ahead, each place behind its parent. -/
def treeP (p : List Int) : Prop := ∀ v, v < p.length → if v = 0 then p.getD v 0 = -1 else 0 ≤ p.getD v 0 ∧ p.getD v 0 < (v : Int)
instance (p : List Int) : Decidable (treeP p) := by unfold treeP; infer_instance
def deepF (p : List Int) : Nat → Int → Nat
  | 0, _ => 0
  | k + 1, v => if 0 ≤ v ∧ v < (p.length : Int) then deepF p k (p.getD v.toNat 0) + 1 else 0
def dep (p : List Int) (v : Int) : Nat := deepF p p.length v
def leafP (p : List Int) (v : Int) : Prop := 0 ≤ v ∧ v < (p.length : Int) ∧ v ∉ p
instance (p : List Int) (v : Int) : Decidable (leafP p v) := by unfold leafP; infer_instance
def lvK (p : List Int) (k : Nat) : List Int := ((List.range k).map fun v : Nat => (v : Int)).filter fun v => decide (v ∉ p)
def lvs (p : List Int) : List Int := lvK p p.length
def flatP (p : List Int) : Prop := ∀ v ∈ lvs p, ∀ w ∈ lvs p, dep p v = dep p w ∧ dep p v ≤ 5
instance (p : List Int) : Decidable (flatP p) := by unfold flatP; infer_instance
def manyP (p t : List Int) : Prop := p.length < 1 ∨ 32 < p.length ∨ t.length < 1 ∨ 32 < t.length
instance (p t : List Int) : Decidable (manyP p t) := by unfold manyP; infer_instance
def chk (p t : List Int) : Int := if manyP p t then 8 else if treeP p ∧ flatP p then (if ∀ x ∈ t, leafP p x then 0 else 4) else 9
def lvT (p t : List Int) : List Int := if chk p t = 0 then lvs p else []
def dpT (p t : List Int) : Nat := if chk p t = 0 then dep p (t.getD 0 0) else 0

theorem lvK_succ (p : List Int) (k : Nat) : lvK p (k + 1) = if (k : Int) ∈ p then lvK p k else lvK p k ++ [(k : Int)] := by
  unfold lvK
  rw [List.range_succ, List.map_append, List.filter_append]
  by_cases h : (k : Int) ∈ p
  · simp [h]
  · simp [h]
theorem lvK_len (p : List Int) (k : Nat) : (lvK p k).length ≤ k := by
  unfold lvK
  refine Nat.le_trans (List.length_filter_le _ _) ?_
  simp
theorem mem_lvK {p : List Int} {k : Nat} {v : Int} : v ∈ lvK p k ↔ 0 ≤ v ∧ v < (k : Int) ∧ v ∉ p := by
  unfold lvK
  rw [List.mem_filter, List.mem_map]
  constructor
  · rintro ⟨⟨a, ha, rfl⟩, hb⟩
    rw [List.mem_range] at ha
    exact ⟨by omega, by omega, by simpa using hb⟩
  · rintro ⟨h1, h2, h3⟩
    exact ⟨⟨v.toNat, by rw [List.mem_range]; omega, by omega⟩, by simpa using h3⟩
theorem mem_lvs {p : List Int} {v : Int} : v ∈ lvs p ↔ leafP p v := mem_lvK
theorem getD_mem {p : List Int} {v : Nat} (h : v < p.length) : p.getD v 0 ∈ p := by
  rw [List.getD_eq_getElem?_getD, List.getElem?_eq_getElem h]
  exact List.getElem_mem h
theorem mem_getD {p : List Int} {x : Int} (h : x ∈ p) : ∃ v, v < p.length ∧ p.getD v 0 = x := by
  obtain ⟨v, hv, rfl⟩ := List.getElem_of_mem h
  exact ⟨v, hv, by rw [List.getD_eq_getElem?_getD, List.getElem?_eq_getElem hv]; rfl⟩

theorem deepF_no (p : List Int) (f : Nat) {v : Int} (h : ¬ (0 ≤ v ∧ v < (p.length : Int))) : deepF p f v = 0 := by
  cases f with
  | zero => rfl
  | succ f => unfold deepF; rw [if_neg h]
theorem deepF_le (p : List Int) : ∀ (f : Nat) (v : Int), deepF p f v ≤ f
  | 0, _ => Nat.le_refl _
  | f + 1, v => by
    unfold deepF
    have := deepF_le p f (p.getD v.toNat 0)
    split <;> omega
theorem dep_le (p : List Int) (v : Int) : dep p v ≤ p.length := deepF_le _ _ _
theorem deepF_fuel {p : List Int} (h : treeP p) : ∀ (k v : Nat), v ≤ k → v < p.length → ∀ f g, v < f → v < g → deepF p f (v : Int) = deepF p g (v : Int)
  | k, v, hk, hv, 0, g, hf, hg => by omega
  | k, v, hk, hv, f + 1, 0, hf, hg => by omega
  | k, v, hk, hv, f + 1, g + 1, hf, hg => by
    have ht := h v hv
    have e : ((v : Int)).toNat = v := by omega
    have hc : 0 ≤ (v : Int) ∧ (v : Int) < (p.length : Int) := by omega
    conv => lhs; unfold deepF
    conv => rhs; unfold deepF
    rw [if_pos hc, if_pos hc, e]
    by_cases h0 : v = 0
    · rw [if_pos h0] at ht
      rw [ht, deepF_no p f (by omega), deepF_no p g (by omega)]
    · rw [if_neg h0] at ht
      obtain ⟨u, hu⟩ : ∃ u : Nat, p.getD v 0 = (u : Int) := ⟨(p.getD v 0).toNat, by omega⟩
      rw [hu] at ht ⊢
      cases k with
      | zero => omega
      | succ k => rw [deepF_fuel h k u (by omega) (by omega) f g (by omega) (by omega)]
theorem dep_root {p : List Int} (h : treeP p) (hn : 0 < p.length) : dep p 0 = 1 := by
  have ht := h 0 hn
  rw [if_pos rfl] at ht
  obtain ⟨n, e⟩ : ∃ n, p.length = n + 1 := ⟨p.length - 1, by omega⟩
  unfold dep
  rw [e]
  unfold deepF
  rw [if_pos (by omega)]
  show deepF p n (p.getD 0 0) + 1 = 1
  rw [ht, deepF_no p n (by omega)]
theorem dep_step {p : List Int} (h : treeP p) {v : Nat} (hv : v < p.length) (h0 : v ≠ 0) : dep p (v : Int) = dep p (p.getD v 0) + 1 := by
  have ht := h v hv
  rw [if_neg h0] at ht
  obtain ⟨n, e⟩ : ∃ n, p.length = n + 1 := ⟨p.length - 1, by omega⟩
  have e2 : ((v : Int)).toNat = v := by omega
  unfold dep
  conv => lhs; rw [e]
  conv => lhs; unfold deepF
  rw [if_pos (by omega), e2]
  obtain ⟨u, hu⟩ : ∃ u : Nat, p.getD v 0 = (u : Int) := ⟨(p.getD v 0).toNat, by omega⟩
  rw [hu] at ht ⊢
  rw [deepF_fuel h u u (Nat.le_refl _) (by omega) n p.length (by omega) (by omega)]
theorem dep_pos {p : List Int} {v : Nat} (hv : v < p.length) : 1 ≤ dep p (v : Int) := by
  obtain ⟨n, e⟩ : ∃ n, p.length = n + 1 := ⟨p.length - 1, by omega⟩
  unfold dep
  rw [e]
  unfold deepF
  rw [if_pos (by omega)]
  omega
theorem lvs_ne {p : List Int} (h : treeP p) (hn : 0 < p.length) : lvs p ≠ [] := by
  have : ((p.length - 1 : Nat) : Int) ∈ lvs p := by
    rw [mem_lvs]
    refine ⟨by omega, by omega, fun hm => ?_⟩
    obtain ⟨v, hv, e⟩ := mem_getD hm
    have ht := h v hv
    by_cases h0 : v = 0
    · rw [if_pos h0] at ht; omega
    · rw [if_neg h0] at ht; omega
  intro e
  rw [e] at this
  cases this
theorem flat_head {p : List Int} {a : Int} {r : List Int} (h : lvs p = a :: r) : flatP p ↔ ∀ v ∈ lvs p, dep p v = dep p a ∧ dep p v ≤ 5 := by
  constructor
  · intro hf v hv
    exact hf v hv a (by rw [h]; simp)
  · intro hf v hv w hw
    have h1 := hf v hv
    have h2 := hf w hw
    omega
theorem chk_many {p t : List Int} (h : manyP p t) : chk p t = 8 := by unfold chk; rw [if_pos h]
theorem chk_tree {p t : List Int} (h : ¬ manyP p t) (h2 : ¬ treeP p ∨ ¬ flatP p) : chk p t = 9 := by
  unfold chk
  rw [if_neg h, if_neg]
  rintro ⟨h3, h4⟩
  rcases h2 with h2 | h2
  · exact h2 h3
  · exact h2 h4
theorem chk_fit {p t : List Int} (h : ¬ manyP p t) (h2 : treeP p) (h3 : flatP p) : chk p t = if ∀ x ∈ t, leafP p x then 0 else 4 := by
  unfold chk
  rw [if_neg h, if_pos ⟨h2, h3⟩]
theorem chk_ok {p t : List Int} (h : chk p t = 0) : ¬ manyP p t ∧ treeP p ∧ flatP p ∧ ∀ x ∈ t, leafP p x := by
  unfold chk at h
  split at h
  · omega
  rename_i h1
  split at h
  · rename_i h2
    split at h
    · rename_i h3
      exact ⟨h1, h2.1, h2.2, h3⟩
    · omega
  · omega
theorem chk_cases (p t : List Int) : chk p t = 0 ∨ chk p t = 4 ∨ chk p t = 8 ∨ chk p t = 9 := by
  unfold chk
  split
  · omega
  split
  · split <;> omega
  · omega

/-! trees that part evenly -/
def rngI (a b : Nat) : List Int := (List.range' a (b - a)).map fun v : Nat => (v : Int)
def grow (l : List Int) (k : Nat) : List Int := l.flatMap (List.replicate k)
def fin (p t : List Int) : (List Int × List Int) × Int := if chk p t = 0 then ((p, t), 0) else (([], []), chk p t)
def evB (lim : Nat) : List Int → List Int → Nat → Option (List Int × Nat)
  | [], p, f => some (p, f)
  | n :: r, p, f => if lim < (p ++ grow (rngI f p.length) n.toNat).length then none else evB lim r (p ++ grow (rngI f p.length) n.toNat) p.length
def evT (parts : List Int) (th : Int) : (List Int × List Int) × Int :=
  if th < 1 ∨ ∃ n ∈ parts, n < 1 then (([], []), 1) else
  match evB 32 parts [-1] 0 with
  | none => (([], []), 8)
  | some (p, f) => fin p (grow (rngI f p.length) (min th 33).toNat)
theorem rngI_self (a : Nat) : rngI a a = [] := by simp [rngI]
theorem rngI_len (a b : Nat) : (rngI a b).length = b - a := by simp [rngI]
theorem rngI_succ {a b : Nat} (h : a ≤ b) : rngI a (b + 1) = rngI a b ++ [(b : Int)] := by
  unfold rngI
  rw [show b + 1 - a = (b - a) + 1 by omega, List.range'_concat, List.map_append]
  simp
  omega
theorem rngI_app {a b c : Nat} (h : a ≤ b) (h2 : b ≤ c) : rngI a c = rngI a b ++ rngI b c := by
  unfold rngI
  rw [← List.map_append, show c - a = (b - a) + (c - b) by omega]
  congr 1
  have : b = a + 1 * (b - a) := by omega
  conv => rhs; arg 2; rw [this]
  rw [show c - (a + 1 * (b - a)) = c - b by omega, List.range'_append]
theorem mem_rngI {a b : Nat} {x : Int} : x ∈ rngI a b ↔ ∃ v : Nat, x = (v : Int) ∧ a ≤ v ∧ v < b := by
  unfold rngI
  rw [List.mem_map]
  constructor
  · rintro ⟨v, hv, rfl⟩
    rw [List.mem_range'_1] at hv
    exact ⟨v, rfl, by omega, by omega⟩
  · rintro ⟨v, rfl, h1, h2⟩
    exact ⟨v, by rw [List.mem_range'_1]; omega, rfl⟩
theorem grow_len (l : List Int) (k : Nat) : (grow l k).length = l.length * k := by
  induction l with
  | nil => simp [grow]
  | cons a t ih =>
    show (List.replicate k a ++ grow t k).length = _
    rw [List.length_append, ih, List.length_replicate, List.length_cons, Nat.add_mul]
    omega
theorem grow_app (l m : List Int) (k : Nat) : grow (l ++ m) k = grow l k ++ grow m k := by simp [grow]
theorem grow_one (v : Int) (k : Nat) : grow [v] k = List.replicate k v := by simp [grow]
theorem mem_grow {l : List Int} {k : Nat} {x : Int} (h : x ∈ grow l k) : x ∈ l := by
  unfold grow at h
  rw [List.mem_flatMap] at h
  obtain ⟨a, ha, hx⟩ := h
  rw [List.mem_replicate] at hx
  rw [hx.2]; exact ha
theorem evB_len {lim : Nat} : ∀ (parts p : List Int) (f : Nat) (q : List Int) (g : Nat), evB lim parts p f = some (q, g) → p.length ≤ q.length
  | [], p, f, q, g, h => by injection h with h; injection h with h1 h2; subst h1; omega
  | n :: r, p, f, q, g, h => by
    unfold evB at h
    split at h
    · cases h
    · have := evB_len r _ _ q g h
      rw [List.length_append] at this
      omega
theorem evB_33 : ∀ (parts p : List Int) (f : Nat), p.length ≤ 32 → (evB 33 parts p f = none → evB 32 parts p f = none) ∧
    ∀ q g, evB 33 parts p f = some (q, g) → (q.length ≤ 32 ∧ evB 32 parts p f = some (q, g)) ∨ (q.length = 33 ∧ evB 32 parts p f = none)
  | [], p, f, hp => ⟨fun h => h, fun q g h => .inl ⟨by injection h with h; injection h with h1 _; subst h1; exact hp, h⟩⟩
  | n :: r, p, f, hp => by
    unfold evB
    by_cases h1 : 33 < (p ++ grow (rngI f p.length) n.toNat).length
    · rw [if_pos h1, if_pos (by omega)]
      exact ⟨fun h => h, fun q g h => by cases h⟩
    · rw [if_neg h1]
      by_cases h2 : 32 < (p ++ grow (rngI f p.length) n.toNat).length
      · rw [if_pos h2]
        refine ⟨fun _ => rfl, fun q g h => .inr ⟨?_, rfl⟩⟩
        have h3 := evB_len _ _ _ _ _ h
        have h4 : q.length ≤ 33 := evB_lim r _ _ q g h (by omega)
        omega
      · rw [if_neg h2]
        exact evB_33 r _ _ (by omega)
where
  evB_lim : ∀ (parts p : List Int) (f : Nat) (q : List Int) (g : Nat), evB 33 parts p f = some (q, g) → p.length ≤ 33 → q.length ≤ 33
    | [], p, f, q, g, h, hp => by injection h with h; injection h with h1 h2; subst h1; exact hp
    | n :: r, p, f, q, g, h, hp => by
      unfold evB at h
      split at h
      · cases h
      · exact evB_lim r _ _ q g h (by omega)
theorem evB_level {lim : Nat} : ∀ (parts p : List Int) (f : Nat) (q : List Int) (g : Nat), (∀ n ∈ parts, 1 ≤ n) → f < p.length → evB lim parts p f = some (q, g) → g < q.length
  | [], p, f, q, g, _, hf, h => by injection h with h; injection h with h1 h2; subst h1; subst h2; exact hf
  | n :: r, p, f, q, g, hn, hf, h => by
    unfold evB at h
    split at h
    · cases h
    · refine evB_level r _ _ q g (fun m hm => hn m (by simp [hm])) ?_ h
      rw [List.length_append, grow_len, rngI_len]
      have h1 := hn n (by simp)
      have : 1 * 1 ≤ (p.length - f) * n.toNat := Nat.mul_le_mul (by omega) (by omega)
      omega
theorem getD_app_l {p e : List Int} {v : Nat} (h : v < p.length) : (p ++ e).getD v 0 = p.getD v 0 := by
  simp only [List.getD_eq_getElem?_getD, List.getElem?_append_left h]
theorem getD_app_r {p e : List Int} {v : Nat} (h : p.length ≤ v) : (p ++ e).getD v 0 = e.getD (v - p.length) 0 := by
  simp only [List.getD_eq_getElem?_getD, List.getElem?_append_right h]
theorem dep_app {p e : List Int} (h : treeP p) (h2 : treeP (p ++ e)) : ∀ (k v : Nat), v ≤ k → v < p.length → dep (p ++ e) (v : Int) = dep p (v : Int)
  | k, v, hk, hv => by
    have hl : v < (p ++ e).length := by rw [List.length_append]; omega
    by_cases h0 : v = 0
    · subst h0
      exact (dep_root h2 (by omega)).trans (dep_root h (by omega)).symm
    · have ht := h v hv
      rw [if_neg h0] at ht
      rw [dep_step h2 hl h0, dep_step h hv h0, getD_app_l hv]
      obtain ⟨u, hu⟩ : ∃ u : Nat, p.getD v 0 = (u : Int) := ⟨(p.getD v 0).toNat, by omega⟩
      rw [hu] at ht ⊢
      cases k with
      | zero => omega
      | succ k => rw [dep_app h h2 k u (by omega) (by omega)]
theorem evB_deep {lim : Nat} : ∀ (parts p : List Int) (f : Nat) (q : List Int) (g i : Nat), treeP p → 0 < p.length → (∀ v : Nat, f ≤ v → v < p.length → dep p (v : Int) = i) → evB lim parts p f = some (q, g) →
    treeP q ∧ ∀ v : Nat, g ≤ v → v < q.length → dep q (v : Int) = i + parts.length
  | [], p, f, q, g, i, hp, _, hd, h => by injection h with h; injection h with h1 h2; subst h1; subst h2; exact ⟨hp, hd⟩
  | n :: r, p, f, q, g, i, hp, hp0, hd, h => by
    unfold evB at h
    split at h
    · cases h
    · have hm : ∀ v : Nat, p.length ≤ v → v < (p ++ grow (rngI f p.length) n.toNat).length → ∃ u : Nat, (p ++ grow (rngI f p.length) n.toNat).getD v 0 = (u : Int) ∧ f ≤ u ∧ u < p.length := by
        intro v h1 h2
        rw [List.length_append] at h2
        rw [getD_app_r h1]
        have := mem_grow (getD_mem (p := grow (rngI f p.length) n.toNat) (v := v - p.length) (by omega))
        obtain ⟨u, e, a, b⟩ := mem_rngI.1 this
        exact ⟨u, e, a, b⟩
      have hq : treeP (p ++ grow (rngI f p.length) n.toNat) := by
        intro v hv
        by_cases h1 : v < p.length
        · rw [getD_app_l h1]; exact hp v h1
        · obtain ⟨u, e, a, b⟩ := hm v (by omega) hv
          rw [if_neg (by omega), e]
          omega
      have := evB_deep r _ _ q g (i + 1) hq (by rw [List.length_append]; omega) (fun v h1 h2 => by
        obtain ⟨u, e, a, b⟩ := hm v h1 h2
        rw [dep_step hq h2 (by omega), e, dep_app hp hq u u (Nat.le_refl _) b, hd u a b]) h
      refine ⟨this.1, fun v h1 h2 => ?_⟩
      rw [this.2 v h1 h2, List.length_cons]
      omega
theorem tree_one : treeP [-1] := by decide
/-- How the program comes to what is even. -/
theorem evT_prog {parts : List Int} {th : Int} (h1 : ¬ (th < 1 ∨ ∃ n ∈ parts, n < 1)) : evT parts th = match evB 33 parts [-1] 0 with
    | none => (([], []), 8)
    | some (p, f) => fin p (grow (rngI f p.length) (min th 33).toNat) := by
  unfold evT
  rw [if_neg h1]
  obtain ⟨k1, k2⟩ := evB_33 parts [-1] 0 (by simp)
  cases h : evB 33 parts [-1] 0 with
  | none => rw [k1 h]
  | some x =>
    obtain ⟨q, g⟩ := x
    rcases k2 q g h with ⟨_, k⟩ | ⟨k3, k⟩
    · rw [k]
    · rw [k]
      show _ = fin q _
      have : chk q (grow (rngI g q.length) (min th 33).toNat) = 8 := chk_many (.inr (.inl (by omega)))
      unfold fin
      rw [this]
      rfl
/-- How the reference comes to it. -/
theorem evT_ref {parts : List Int} {th : Int} (h1 : ¬ (th < 1 ∨ ∃ n ∈ parts, n < 1)) {p : List Int} {f : Nat} (h : evB 32 parts [-1] 0 = some (p, f)) :
    evT parts th = if 32 < (grow (rngI f p.length) th.toNat).length then (([], []), 8) else fin p (grow (rngI f p.length) th.toNat) := by
  unfold evT
  rw [if_neg h1, h]
  show fin p _ = _
  have hf := evB_level parts [-1] 0 p f (fun n hn => Int.not_lt.1 (fun hh => h1 (.inr ⟨n, hn, hh⟩))) (by simp) h
  have hth : 1 ≤ th := Int.not_lt.1 (fun hh => h1 (.inl hh))
  rw [grow_len, rngI_len]
  by_cases hlt : th ≤ 33
  · rw [show min th 33 = th by omega]
    split
    · rename_i h2
      unfold fin
      rw [chk_many (.inr (.inr (.inr (by rw [grow_len, rngI_len]; exact h2))))]
      rfl
    · rfl
  · have h5 : 1 * 33 ≤ (p.length - f) * th.toNat := Nat.mul_le_mul (by omega) (by omega)
    have h6 : 1 * 33 ≤ (p.length - f) * (min th 33).toNat := Nat.mul_le_mul (by omega) (by omega)
    rw [if_pos (by omega)]
    unfold fin
    rw [chk_many (.inr (.inr (.inr (by rw [grow_len, rngI_len]; omega))))]
    rfl
theorem evT_none {parts : List Int} {th : Int} (h1 : ¬ (th < 1 ∨ ∃ n ∈ parts, n < 1)) (h : evB 32 parts [-1] 0 = none) : evT parts th = (([], []), 8) := by
  unfold evT
  rw [if_neg h1, h]
theorem evT_arg {parts : List Int} {th : Int} (h1 : th < 1 ∨ ∃ n ∈ parts, n < 1) : evT parts th = (([], []), 1) := by
  unfold evT
  rw [if_pos h1]
/-- What is even is as deep as it has parts, and one more. -/
theorem evT_deep {parts : List Int} {th : Int} (h : (evT parts th).2 = 0) : dpT (evT parts th).1.1 (evT parts th).1.2 = parts.length + 1 := by
  unfold evT at *
  split at h
  · cases h
  rename_i h1
  rw [if_neg h1]
  cases he : evB 32 parts [-1] 0 with
  | none => rw [he] at h; cases h
  | some x =>
    obtain ⟨p, f⟩ := x
    rw [he] at h
    simp only at h ⊢
    unfold fin at *
    split at h
    · rename_i h2
      rw [if_pos h2]
      show dpT p (grow (rngI f p.length) (min th 33).toNat) = _
      unfold dpT
      rw [if_pos h2]
      obtain ⟨k1, _, _, _⟩ := chk_ok h2
      have hl : 0 < (grow (rngI f p.length) (min th 33).toNat).length := by unfold manyP at k1; omega
      obtain ⟨v, e, a, b⟩ := mem_rngI.1 (mem_grow (getD_mem hl))
      rw [e, (evB_deep parts [-1] 0 p f 1 tree_one (by simp) (fun v _ hv => by
        have : v = 0 := by simpa using hv
        subst this
        decide) he).2 v a b]
      omega
    · rename_i h2
      exact absurd h h2
end Go.Proofs.YtcfdphfochfeoaaDoor.Tp
