/- Events and their texts, as Lean lists: what the reference tells, and what the program's reading comes to. -/
import Derived.Test.YtcfdphfochfeoaaDoorPiP
namespace Go.Proofs.YtcfdphfochfeoaaDoor.Tr
open Go.Proofs.YtcfdphfochfeoaaDoor.Li Go.Proofs.YtcfdphfochfeoaaDoor.De Go.Proofs.YtcfdphfochfeoaaDoor.Pi

structure Ev where
  kind : Int
  th : Int
  rd : Bool
  ct : Int
deriving DecidableEq
def lets : List UInt8 := [110, 97, 101, 120, 114, 98]
def kOf (c : UInt8) : Option Nat := if c = 110 then some 0 else if c = 97 then some 1 else if c = 101 then some 2 else if c = 120 then some 3 else if c = 114 then some 4 else if c = 98 then some 5 else none
theorem kOf_some {c : UInt8} {k : Nat} (h : kOf c = some k) : k < 6 ∧ lets.getD k 0 = c := by
  unfold kOf at h
  split at h
  · rename_i e; injection h with h; subst h; subst e; decide
  split at h
  · rename_i e; injection h with h; subst h; subst e; decide
  split at h
  · rename_i e; injection h with h; subst h; subst e; decide
  split at h
  · rename_i e; injection h with h; subst h; subst e; decide
  split at h
  · rename_i e; injection h with h; subst h; subst e; decide
  split at h
  · rename_i e; injection h with h; subst h; subst e; decide
  cases h
theorem kOf_lets : ∀ k, k < 6 → kOf (lets.getD k 0) = some k := by decide
theorem lets_no : ∀ k, k < 6 → lets.getD k 0 ≠ 47 ∧ nb (lets.getD k 0) = false ∧ lets.getD k 0 ≠ 10 := by decide
def okE (e : Ev) : Prop := (-9223372036854775808 ≤ e.kind ∧ e.kind ≤ 9223372036854775807) ∧ (-9223372036854775808 ≤ e.th ∧ e.th ≤ 9223372036854775807) ∧ -9223372036854775808 ≤ e.ct ∧ e.ct ≤ 9223372036854775807
def goodE (e : Ev) : Bool := decide (0 ≤ e.kind) && decide (e.kind ≤ 5)
theorem good_iff (e : Ev) : goodE e = true ↔ 0 ≤ e.kind ∧ e.kind ≤ 5 := by simp [goodE]
def tailE (e : Ev) : List UInt8 := (if e.rd then [39] else []) ++ (if e.ct = 0 then [] else 47 :: txt e.ct)
def wordE (e : Ev) : List UInt8 := lets.getD e.kind.toNat 0 :: (txt e.th ++ tailE e)
/-- The word is that event's. -/
def Is (e : Ev) (w : List UInt8) : Prop := okE e ∧ goodE e = true ∧ wordE e = w
def textE (l : List Ev) : List UInt8 × Int := if l.all goodE then (js (l.map wordE), 0) else ([], 7)

/-! the program's way -/
def cutP (c : UInt8) (l : List UInt8) : List UInt8 × Bool := match l with
  | [] => ([], false)
  | x :: r => if x = c then (r, true) else (x :: r, false)
def progE : List UInt8 → Option Ev
  | [] => none
  | c :: t => match kOf c with
    | none => none
    | some k => if (take t).2 = 0 then none else
      match cutP 39 (t.drop (take t).2) with
      | (rest, rd) => if rest = [] then some ⟨k, (take t).1, rd, 0⟩ else
        match cutP 47 rest with
        | (q, is) => match prs q with
          | none => none
          | some m => if is = false ∨ m = 0 then none else some ⟨k, (take t).1, rd, m⟩
theorem progE_cons (c : UInt8) (t : List UInt8) : progE (c :: t) = match kOf c with
    | none => none
    | some k => if (take t).2 = 0 then none else
      match cutP 39 (t.drop (take t).2) with
      | (rest, rd) => if rest = [] then some ⟨k, (take t).1, rd, 0⟩ else
        match cutP 47 rest with
        | (q, is) => match prs q with
          | none => none
          | some m => if is = false ∨ m = 0 then none else some ⟨k, (take t).1, rd, m⟩ := rfl
theorem digit_no {c : UInt8} (h : isD c = true) : c ≠ 47 ∧ c ≠ 39 ∧ c ≠ 45 ∧ nb c = false ∧ c ≠ 10 := by
  rw [isD_iff] at h
  refine ⟨fun e => ?_, fun e => ?_, fun e => ?_, ?_, fun e => ?_⟩
  · subst e; exact absurd h.1 (by decide)
  · subst e; exact absurd h.1 (by decide)
  · subst e; exact absurd h.1 (by decide)
  · rw [nb_nat]; unfold nbR; simp; omega
  · subst e; exact absurd h.1 (by decide)
theorem txt_no (n : Int) : ∀ c ∈ txt n, c ≠ 47 ∧ c ≠ 39 ∧ nb c = false ∧ c ≠ 10 := by
  intro c hc
  have hd := (canon_all (digs_canon n.natAbs)).2
  unfold txt at hc
  split at hc
  · rcases List.mem_cons.1 hc with e | e
    · subst e; decide
    · obtain ⟨a, b, _, d, f⟩ := digit_no (hd c e); exact ⟨a, b, d, f⟩
  · obtain ⟨a, b, _, d, f⟩ := digit_no (hd c hc); exact ⟨a, b, d, f⟩
theorem take_txt_end {n : Int} (hn : -9223372036854775808 ≤ n ∧ n ≤ 9223372036854775807) : take (txt n) = (n, (txt n).length) :=
  take_some (Nat.le_refl _) (by rw [List.take_length]; exact prs_txt hn) (fun j h1 h2 => by omega)
theorem tail_cases (e : Ev) : tailE e = [] ∨ ∃ c t, tailE e = c :: t ∧ isD c = false ∧ c ≠ 45 := by
  unfold tailE
  cases e.rd with
  | true => right; exact ⟨39, _, rfl, by decide, by decide⟩
  | false =>
    by_cases h : e.ct = 0
    · left; simp [h]
    · right; exact ⟨47, txt e.ct, by simp [h], by decide, by decide⟩
theorem take_word {e : Ev} (h : okE e) : take (txt e.th ++ tailE e) = (e.th, (txt e.th).length) := by
  rcases tail_cases e with h0 | ⟨c, t, h0, h1, h2⟩
  · rw [h0, List.append_nil]; exact take_txt_end h.2.1
  · rw [h0]; exact take_txt h.2.1 t c h1 h2
theorem prog_of {e : Ev} {w : List UInt8} (h : Is e w) : progE w = some e := by
  obtain ⟨h1, h2, rfl⟩ := h
  have hg := (good_iff e).1 h2
  have hk := kOf_lets e.kind.toNat (by omega)
  have hkk : ((e.kind.toNat : Nat) : Int) = e.kind := Int.toNat_of_nonneg hg.1
  have hl : (txt e.th).length ≠ 0 := fun h0 => txt_ne e.th (List.eq_nil_of_length_eq_zero h0)
  unfold wordE
  rw [progE_cons, hk]
  simp only
  rw [take_word h1, if_neg hl, List.drop_left' rfl, hkk]
  unfold tailE
  obtain ⟨ek, et, er, ec⟩ := e
  simp only
  by_cases h0 : ec = 0
  · subst h0
    cases er <;> simp [cutP]
  · have hp := prs_txt (n := ec) h1.2.2
    cases er <;> simp [cutP, h0, hp]
theorem of_prog {e : Ev} {w : List UInt8} (h : progE w = some e) : Is e w := by
  cases w with
  | nil => cases h
  | cons c t =>
    rw [progE_cons] at h
    cases hk : kOf c with
    | none => rw [hk] at h; cases h
    | some k =>
      rw [hk] at h
      simp only at h
      obtain ⟨k6, hc⟩ := kOf_some hk
      by_cases h0 : (take t).2 = 0
      · rw [if_pos h0] at h; cases h
      · rw [if_neg h0] at h
        have hp := tk_val t (min t.length 20) h0
        change prs (t.take (take t).2) = some (take t).1 at hp
        obtain ⟨b, e1⟩ := prs_some hp
        have ht : t = txt (take t).1 ++ t.drop (take t).2 := by
          conv => lhs; rw [← List.take_append_drop (take t).2 t]
          rw [e1]
        generalize take t = p at *
        obtain ⟨n, i⟩ := p
        simp only at *
        generalize t.drop i = r0 at *
        have hres : ∀ (rd : Bool) (m : Int), (-9223372036854775808 ≤ m ∧ m ≤ 9223372036854775807) → r0 = (if rd then [39] else []) ++ (if m = 0 then [] else 47 :: txt m) → Is ⟨k, n, rd, m⟩ (c :: t) := by
          intro rd m hm hr
          refine ⟨⟨⟨by show -9223372036854775808 ≤ (k : Int); omega, by show (k : Int) ≤ 9223372036854775807; omega⟩, b, hm⟩, (good_iff _).2 ⟨by show 0 ≤ (k : Int); omega, by show (k : Int) ≤ 5; omega⟩, ?_⟩
          unfold wordE tailE
          rw [ht, hr, Int.toNat_natCast, hc]
        have hq : ∀ (rest : List UInt8) (rd : Bool), r0 = (if rd then [39] else []) ++ rest → (if rest = [] then some (Ev.mk k n rd 0) else match cutP 47 rest with | (q, is) => match prs q with | none => none | some m => if is = false ∨ m = 0 then none else some ⟨k, n, rd, m⟩) = some e → Is e (c :: t) := by
          intro rest rd hr he
          by_cases hre : rest = []
          · rw [if_pos hre] at he
            injection he with he
            subst he hre
            exact hres rd 0 (by omega) (by rw [hr]; simp)
          · rw [if_neg hre] at he
            cases rest with
            | nil => exact absurd rfl hre
            | cons x r =>
              unfold cutP at he
              by_cases hx : x = 47
              · subst hx
                simp only [if_true] at he
                cases hm : prs r with
                | none => rw [hm] at he; cases he
                | some m =>
                  rw [hm] at he
                  simp only at he
                  by_cases hm0 : m = 0
                  · rw [if_pos (.inr hm0)] at he; cases he
                  · rw [if_neg (by rintro (h | h); cases h; exact hm0 h)] at he
                    injection he with he
                    subst he
                    obtain ⟨hb, e2⟩ := prs_some hm
                    exact hres rd m hb (by rw [hr, if_neg hm0, e2])
              · simp only [hx, if_false] at he
                cases hm : prs (x :: r) with
                | none => rw [hm] at he; cases he
                | some m => rw [hm] at he; simp at he
        cases r0 with
        | nil =>
          rw [show cutP 39 [] = ([], false) from rfl] at h; exact hq [] false (by simp) h
        | cons x r =>
          by_cases hx : x = 39
          · subst hx
            rw [show cutP 39 (39 :: r) = (r, true) by simp [cutP]] at h; exact hq r true (by simp) h
          · rw [show cutP 39 (x :: r) = (x :: r, false) by simp [cutP, hx]] at h; exact hq (x :: r) false (by simp) h
theorem is_inj {e e' : Ev} {w : List UInt8} (h : Is e w) (h' : Is e' w) : e = e' := by
  have h1 := prog_of h
  rw [prog_of h'] at h1
  injection h1 with h1
  exact h1.symm

theorem last_cons {α : Type} {l : List α} {a : α} (h : l ≠ []) : (a :: l).getLast? = l.getLast? := by
  cases l with
  | nil => exact absurd rfl h
  | cons b t => simp [List.getLast?_cons_cons]
theorem dropLast_last {l : List UInt8} {a : UInt8} (h : l.getLast? = some a) : l.dropLast ++ [a] = l := by
  rw [List.getLast?_eq_some_iff] at h
  obtain ⟨t, rfl⟩ := h
  simp
/-! the reference's way -/
def cnt1 (q : List UInt8) : Option Int := match prs q with
  | some k => if k = 0 then none else some k
  | none => none
def cntE : List UInt8 → Option Int
  | [] => some 0
  | _ :: q => cnt1 q
def refE (w : List UInt8) : Option Ev :=
  let pre := w.takeWhile (· != 47)
  let post := w.dropWhile (· != 47)
  let rd := decide (pre.getLast? = some 39)
  let bd := if rd then pre.dropLast else pre
  if bd.length < 2 then none else
  match prs (bd.drop 1) with
  | none => none
  | some n =>
    match cntE post with
    | none => none
    | some m => match kOf (w.getD 0 0) with
      | none => none
      | some k => some ⟨k, n, rd, m⟩
theorem last_txt (n : Int) : (txt n).getLast? ≠ some 39 := by
  intro h
  have := List.mem_of_getLast? h
  exact (txt_no n 39 this).2.1 rfl
theorem ref_of {e : Ev} {w : List UInt8} (h : Is e w) : refE w = some e := by
  obtain ⟨h1, h2, rfl⟩ := h
  have hg := (good_iff e).1 h2
  have hk := kOf_lets e.kind.toNat (by omega)
  have hln := lets_no e.kind.toNat (by omega)
  have hkk : ((e.kind.toNat : Nat) : Int) = e.kind := Int.toNat_of_nonneg hg.1
  have hl : 0 < (txt e.th).length := List.length_pos_iff.2 (txt_ne e.th)
  obtain ⟨ek, et, er, ec⟩ := e
  have hpre : ∀ post : List UInt8, (post = [] ∨ ∃ q, post = 47 :: q) → ∀ r : List UInt8, (r = [] ∨ r = [39]) → ((lets.getD ek.toNat 0 :: (txt et ++ (r ++ post))).takeWhile (· != 47) = lets.getD ek.toNat 0 :: (txt et ++ r) ∧ (lets.getD ek.toNat 0 :: (txt et ++ (r ++ post))).dropWhile (· != 47) = post) := by
    intro post hp r hr
    have hall : ∀ c ∈ lets.getD ek.toNat 0 :: (txt et ++ r), (c != 47) = true := by
      intro c hc
      rw [bne_iff_ne]
      rcases List.mem_cons.1 hc with e | e
      · rw [e]; exact hln.1
      · rcases List.mem_append.1 e with e | e
        · exact (txt_no et c e).1
        · rcases hr with rfl | rfl
          · cases e
          · rw [List.mem_singleton.1 e]; decide
    have he : lets.getD ek.toNat 0 :: (txt et ++ (r ++ post)) = (lets.getD ek.toNat 0 :: (txt et ++ r)) ++ post := by simp
    obtain ⟨a1, a2⟩ := tw_all (p := (· != 47)) (x := lets.getD ek.toNat 0 :: (txt et ++ r)) (t := post) hall
    rw [he, a1, a2]
    rcases hp with rfl | ⟨q, rfl⟩
    · simp
    · simp
  have hgt : ((lets.getD ek.toNat 0 :: (txt et ++ [39])).getLast? = some 39) := by
    rw [← List.cons_append, List.getLast?_append]; simp
  have hgf : (lets.getD ek.toNat 0 :: (txt et ++ [])).getLast? ≠ some 39 := by
    rw [List.append_nil, last_cons (txt_ne et)]
    exact last_txt et
  have hdl : (lets.getD ek.toNat 0 :: (txt et ++ [39])).dropLast = lets.getD ek.toNat 0 :: txt et := by
    rw [← List.cons_append, List.dropLast_concat]
  have hpt := prs_txt (n := et) h1.2.1
  have hpost : (if ec = 0 then ([] : List UInt8) else 47 :: txt ec) = [] ∨ ∃ q, (if ec = 0 then ([] : List UInt8) else 47 :: txt ec) = 47 :: q := by
    by_cases h0 : ec = 0
    · left; rw [if_pos h0]
    · right; exact ⟨txt ec, by rw [if_neg h0]⟩
  have hw0 : ∀ t : List UInt8, (lets.getD ek.toNat 0 :: t).getD 0 0 = lets.getD ek.toNat 0 := fun _ => rfl
  unfold refE wordE tailE
  simp only at hkk hl hk ⊢
  have hm : cntE (if ec = 0 then ([] : List UInt8) else 47 :: txt ec) = some ec := by
    by_cases h0 : ec = 0
    · rw [if_pos h0, h0]; rfl
    · rw [if_neg h0]
      show cnt1 (txt ec) = some ec
      unfold cnt1
      rw [prs_txt (n := ec) h1.2.2]
      simp only
      rw [if_neg h0]
  have hbl : ¬ (lets.getD ek.toNat 0 :: txt et).length < 2 := by rw [List.length_cons]; omega
  cases er with
  | true =>
    obtain ⟨p1, p2⟩ := hpre _ hpost [39] (.inr rfl)
    simp only [if_true]
    rw [p1, p2, hm, hgt, decide_eq_true rfl]
    simp only [if_true]
    rw [hdl, if_neg hbl, List.drop_succ_cons, List.drop_zero, hpt, hw0, hk]
    simp only
    rw [hkk]
  | false =>
    obtain ⟨p1, p2⟩ := hpre _ hpost [] (.inl rfl)
    simp only [Bool.false_eq_true, if_false]
    rw [p1, p2, hm, decide_eq_false hgf]
    simp only [Bool.false_eq_true, if_false]
    rw [List.append_nil, if_neg hbl, List.drop_succ_cons, List.drop_zero, hpt, hw0, hk]
    simp only
    rw [hkk]
theorem of_ref {e : Ev} {w : List UInt8} (h : refE w = some e) : Is e w := by
  unfold refE at h
  simp only at h
  have hw : w = w.takeWhile (· != 47) ++ w.dropWhile (· != 47) := List.takeWhile_append_dropWhile.symm
  have hd := fun (b : UInt8) (t : List UInt8) (hh : w.dropWhile (· != 47) = b :: t) => drop_head (p := (· != 47)) hh
  generalize w.takeWhile (· != 47) = pre at *
  generalize w.dropWhile (· != 47) = post at *
  obtain ⟨rd, hrd⟩ : ∃ rd : Bool, decide (pre.getLast? = some 39) = rd := ⟨_, rfl⟩
  rw [hrd] at h
  obtain ⟨bd, hbd⟩ : ∃ bd, (if rd then pre.dropLast else pre) = bd := ⟨_, rfl⟩
  rw [hbd] at h
  by_cases hb2 : bd.length < 2
  · rw [if_pos hb2] at h; cases h
  · rw [if_neg hb2] at h
    cases hn : prs (bd.drop 1) with
    | none => rw [hn] at h; cases h
    | some n =>
      rw [hn] at h
      simp only at h
      obtain ⟨nb1, nb2⟩ := prs_some hn
      have hpre : pre = bd ++ (if rd then [39] else []) := by
        cases rd with
        | false => simpa using hbd
        | true =>
          simp only [if_true] at hbd ⊢
          rw [decide_eq_true_iff] at hrd
          rw [← hbd]
          exact (dropLast_last hrd).symm
      have hres : ∀ (m : Int), (-9223372036854775808 ≤ m ∧ m ≤ 9223372036854775807) → post = (if m = 0 then [] else 47 :: txt m) → (match kOf (w.getD 0 0) with | none => none | some k => some (Ev.mk k n rd m)) = some e → Is e w := by
        intro m hm hp he
        cases bd with
        | nil => simp at hb2
        | cons c t =>
          rw [List.drop_succ_cons, List.drop_zero] at nb2
          have hw0 : w.getD 0 0 = c := by rw [hw, hpre]; rfl
          rw [hw0] at he
          cases hk : kOf c with
          | none => rw [hk] at he; cases he
          | some k =>
            rw [hk] at he
            injection he with he
            subst he
            obtain ⟨k6, hc⟩ := kOf_some hk
            refine ⟨⟨⟨by show -9223372036854775808 ≤ (k : Int); omega, by show (k : Int) ≤ 9223372036854775807; omega⟩, nb1, hm⟩, (good_iff _).2 ⟨by show 0 ≤ (k : Int); omega, by show (k : Int) ≤ 5; omega⟩, ?_⟩
            unfold wordE tailE
            rw [hw, hpre, hp, Int.toNat_natCast, hc, nb2]
            simp
      cases post with
      | nil => exact hres 0 (by omega) rfl h
      | cons x q =>
        have hx : x = 47 := by simpa using hd x q rfl
        subst hx
        change (match cnt1 q with | none => none | some m => match kOf (w.getD 0 0) with | none => none | some k => some (Ev.mk k n rd m)) = some e at h
        unfold cnt1 at h
        cases hq : prs q with
        | none => rw [hq] at h; cases h
        | some m =>
          rw [hq] at h
          simp only at h
          by_cases hm0 : m = 0
          · rw [if_pos hm0] at h; cases h
          · rw [if_neg hm0] at h
            obtain ⟨mb, me⟩ := prs_some hq
            exact hres m mb (by rw [if_neg hm0, me]) h
/-- A word's event, both ways. -/
theorem prog_ref (w : List UInt8) : progE w = refE w := by
  cases h : refE w with
  | some e => exact prog_of (of_ref h)
  | none =>
    cases h2 : progE w with
    | none => rfl
    | some e =>
      rw [ref_of (of_prog h2)] at h
      cases h
end Go.Proofs.YtcfdphfochfeoaaDoor.Tr
