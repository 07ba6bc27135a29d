/- Texts of topologies, and the topologies of texts: the plain law. -/
import Derived.Test.YtcfdphfochfeoaaDoorTpP
import Derived.Test.YtcfdphfochfeoaaDoorDe8
import Derived.Test.YtcfdphfochfeoaaDoorTrP
namespace Go.Proofs.YtcfdphfochfeoaaDoor.Tp
open Go.RowKit Go.Proofs.YtcfdphfochfeoaaDoor.Li Go.Proofs.YtcfdphfochfeoaaDoor.De Go.Proofs.YtcfdphfochfeoaaDoor.Ara
open Go.Proofs.YtcfdphfochfeoaaDoor.Pi (js js_cons words_js mem_js)

def NODES : List UInt8 := [110, 111, 100, 101, 115]
def THREADS : List UInt8 := [116, 104, 114, 101, 97, 100, 115]
def rowT (W : List UInt8) (p : List Int) : List UInt8 := W ++ 32 :: lst p
def txT (p t : List Int) : List UInt8 := if chk p t = 0 then textL [rowT NODES p, rowT THREADS t] else []
def nmb (W s : List UInt8) : List Int × Int := match words s with
  | [x, c] => if x = W then nl c else ([], 2)
  | _ => ([], 2)
def bld (A B : List Int × Int) : (List Int × List Int) × Int := if A.2 = 0 ∧ B.2 = 0 then fin A.1 B.1 else (([], []), 2)
def psT (s : List UInt8) : (List Int × List Int) × Int := match lines s with
  | [a, b] => bld (nmb NODES a) (nmb THREADS b)
  | _ => (([], []), 2)
theorem mem_jn : ∀ {ls : List (List UInt8)} {c : UInt8}, c ∈ jn ls → c = 44 ∨ ∃ x ∈ ls, c ∈ x
  | [], c, h => by cases h
  | [x], c, h => .inr ⟨x, by simp, h⟩
  | x :: y :: r, c, h => by
    rw [jn_cons x (y :: r) (by simp), List.mem_append, List.mem_cons] at h
    rcases h with h | h | h
    · exact .inr ⟨x, by simp, h⟩
    · exact .inl h
    · rcases mem_jn h with h | ⟨z, hz, h⟩
      · exact .inl h
      · exact .inr ⟨z, by simp [List.mem_cons.1 hz], h⟩
theorem lst_no (ns : List Int) : ∀ c ∈ lst ns, nb c = false ∧ c ≠ 10 := by
  intro c hc
  rcases mem_jn hc with h | ⟨x, hx, h⟩
  · subst h; decide
  · rw [List.mem_map] at hx
    obtain ⟨n, _, rfl⟩ := hx
    exact (Tr.txt_no n c h).2.2
theorem lst_ne {ns : List Int} (h : ns ≠ []) : lst ns ≠ [] := by
  cases ns with
  | nil => exact absurd rfl h
  | cons a r =>
    intro e
    unfold lst at e
    rw [List.map_cons] at e
    cases hr : r.map txt with
    | nil => rw [hr] at e; exact txt_ne a e
    | cons y t =>
      rw [hr, jn_cons _ _ (by simp)] at e
      simp at e
theorem words_row {W : List UInt8} (hW : W ≠ []) (hb : ∀ c ∈ W, nb c = false) {p : List Int} (h : p ≠ []) : words (rowT W p) = [W, lst p] := by
  have : rowT W p = js [W, lst p] := (js_cons W [lst p] (by simp)).symm
  rw [this]
  refine words_js _ (fun x hx => ?_) (fun x hx c hc => ?_)
  · rcases List.mem_cons.1 hx with rfl | hx
    · exact hW
    · rw [List.mem_singleton.1 hx]; exact lst_ne h
  · rcases List.mem_cons.1 hx with rfl | hx
    · exact hb c hc
    · rw [List.mem_singleton.1 hx] at hc; exact (lst_no p c hc).1
theorem nmb_row {W : List UInt8} (hW : W ≠ []) (hb : ∀ c ∈ W, nb c = false) {p : List Int} (h : p ≠ []) (hi : ∀ n ∈ p, isI64 n) : nmb W (rowT W p) = (p, 0) := by
  unfold nmb
  rw [words_row hW hb h]
  show (if W = W then nl (lst p) else ([], 2)) = _
  rw [if_pos rfl, nl_lst hi]
theorem row_no {W : List UInt8} (hb : ∀ c ∈ W, c ≠ 10) (p : List Int) : (10 : UInt8) ∉ rowT W p := by
  intro h
  unfold rowT at h
  rw [List.mem_append, List.mem_cons] at h
  rcases h with h | h | h
  · exact hb 10 h rfl
  · exact absurd h (by decide)
  · exact (lst_no p 10 h).2 rfl
theorem chk_i64 {p t : List Int} (h : chk p t = 0) : (∀ n ∈ p, isI64 n) ∧ (∀ n ∈ t, isI64 n) ∧ p ≠ [] ∧ t ≠ [] ∧ p.length ≤ 32 ∧ t.length ≤ 32 := by
  obtain ⟨h1, h2, _, h4⟩ := chk_ok h
  unfold manyP at h1
  refine ⟨fun n hn => ?_, fun n hn => ?_, fun e => ?_, fun e => ?_, by omega, by omega⟩
  · obtain ⟨v, hv, rfl⟩ := mem_getD hn
    have := h2 v hv
    unfold isI64
    split at this <;> omega
  · obtain ⟨a, b, _⟩ := h4 n hn
    unfold isI64
    omega
  · rw [e] at h1; exact h1 (.inl (by simp))
  · rw [e] at h1; exact h1 (.inr (.inr (.inl (by simp))))
theorem fin_ok {p t : List Int} (h : chk p t = 0) : fin p t = ((p, t), 0) := by unfold fin; rw [if_pos h]
theorem fin_no {p t : List Int} (h : chk p t ≠ 0) : fin p t = (([], []), chk p t) := by unfold fin; rw [if_neg h]
theorem psT_txT {p t : List Int} (h : chk p t = 0) : psT (txT p t) = ((p, t), 0) := by
  obtain ⟨h1, h2, h3, h4, _, _⟩ := chk_i64 h
  unfold txT psT
  rw [if_pos h, lines_text _ (fun x hx => by
    rcases List.mem_cons.1 hx with rfl | hx
    · exact row_no (by decide) p
    · rw [List.mem_singleton.1 hx]; exact row_no (by decide) t)]
  simp only
  rw [nmb_row (by decide) (by decide) h3 h1, nmb_row (by decide) (by decide) h4 h2]
  unfold bld
  rw [if_pos ⟨rfl, rfl⟩, fin_ok h]
theorem psT_nil : psT [] = (([], []), 2) := rfl
theorem psT_two {s a b : List UInt8} (h : lines s = [a, b]) : psT s = bld (nmb NODES a) (nmb THREADS b) := by unfold psT; rw [h]
theorem psT_no {s : List UInt8} (h : (lines s).length ≠ 2) : psT s = (([], []), 2) := by
  unfold psT
  split
  · rename_i e; rw [e] at h; exact absurd rfl h
  · rfl
theorem nmb_two {W s x c : List UInt8} (h : words s = [x, c]) : nmb W s = if x = W then nl c else ([], 2) := by unfold nmb; rw [h]
theorem nmb_no {W s : List UInt8} (h : (words s).length ≠ 2) : nmb W s = ([], 2) := by
  unfold nmb
  split
  · rename_i e; rw [e] at h; exact absurd rfl h
  · rfl
theorem two_of {α : Type} {l : List α} (h : l.length = 2) : ∃ a b, l = [a, b] := by
  match l, h with
  | [a, b], _ => exact ⟨a, b, rfl⟩
theorem bld_no {A B : List Int × Int} (h : A.2 ≠ 0 ∨ B.2 ≠ 0) : bld A B = (([], []), 2) := by
  unfold bld
  rw [if_neg (by omega)]
theorem bld_ok {A B : List Int × Int} (h : A.2 = 0) (h2 : B.2 = 0) : bld A B = fin A.1 B.1 := by
  unfold bld
  rw [if_pos ⟨h, h2⟩]
theorem txT_len (p t : List Int) : (txT p t).length ≤ 2000 := by
  unfold txT
  split
  · rename_i h
    obtain ⟨h1, h2, h3, h4, h5, h6⟩ := chk_i64 h
    have a := lst_len p h1 p.length
    have b := lst_len t h2 t.length
    rw [List.take_length] at a b
    simp only [textL, rowT, List.flatMap_cons, List.flatMap_nil, List.length_append, List.length_cons, List.length_nil, NODES, THREADS]
    omega
  · simp
end Go.Proofs.YtcfdphfochfeoaaDoor.Tp
