/- Walks of numbers' texts: List. -/
import Derived.Test.YtcfdphfochfeoaaDoorDe4
import Derived.Test.YtcfdphfochfeoaaDoorSame
namespace Go.Proofs.YtcfdphfochfeoaaDoor.De
open Go.RowKit Go.Proofs.YtcfdphfochfeoaaDoor.Li Go.Proofs.YtcfdphfochfeoaaDoor.Ara

theorem jn_snoc (ls : List (List UInt8)) (x : List UInt8) (h : ls ≠ []) : jn (ls ++ [x]) = jn ls ++ 44 :: x := by
  induction ls with
  | nil => exact absurd rfl h
  | cons y r ih =>
    cases r with
    | nil => rfl
    | cons z t =>
      rw [List.cons_append, jn_cons y _ (by simp), ih (by simp), jn_cons y (z :: t) (by simp), List.append_assoc]
      rfl
theorem lst_snoc (ns : List Int) (n : Int) (h : ns ≠ []) : lst (ns ++ [n]) = lst ns ++ 44 :: txt n := by
  unfold lst
  rw [List.map_append]
  exact jn_snoc _ _ (by simpa using h)
theorem take_ne {α : Type} {ns : List α} {k : Nat} (h : 0 < k) (hk : k ≤ ns.length) : ns.take k ≠ [] := by
  intro e
  have := congrArg List.length e
  rw [List.length_take] at this
  simp only [List.length_nil] at this
  omega
theorem lst_one (n : Int) : lst [n] = txt n := rfl
theorem lst_len (ns : List Int) (hb : ∀ n ∈ ns, isI64 n) : ∀ k, (lst (ns.take k)).length ≤ 21 * k
  | 0 => by rw [List.take_zero]; exact Nat.le_refl _
  | k + 1 => by
    by_cases h : k < ns.length
    · have h1 := lst_len ns hb k
      have h2 := txt_len (hb ns[k] (List.getElem_mem h))
      rw [List.take_succ_eq_append_getElem h]
      by_cases h0 : ns.take k = []
      · rw [h0, List.nil_append, lst_one]; omega
      · rw [lst_snoc _ _ h0, List.length_append, List.length_cons]; omega
    · have h1 := lst_len ns hb k
      rw [List.take_of_length_le (by omega)] at h1 ⊢
      omega
theorem flatI (l : List Int) : l.flatMap decI = l.map (Value.int .i64) := Ara.flatI l
theorem sl_int {w : World} {Bd : Nat} {A : Option Addr} {ns : List Int} (h : Sl w Bd A (ns.flatMap decI)) {k : Nat} (hk : k < ns.length) : ∃ b off, A = some ⟨b, off, none⟩ ∧ b < Bd ∧ ∀ j (h : j < ns.length), w.cell? ⟨b, off + j, none⟩ = some (.int .i64 ns[j]) := by
  rw [flatI] at h
  obtain ⟨b, off, h1, h2, h3⟩ := h.at_ (by rw [List.length_map]; omega)
  refine ⟨b, off, h1, h2, fun j hj => ?_⟩
  have := h3 j (by rw [List.length_map]; exact hj)
  rw [List.getElem_map] at this
  exact this
theorem app44 (x : List UInt8) : B x ++ (⟨#[44]⟩ : ByteArray) = B (x ++ [44]) := app_B x [44]
set_option maxRecDepth 100000 in
set_option maxHeartbeats 1000000 in
theorem rlist_any (ns : List Int) (A : Option Addr) (cap : Nat) (w : World) (hm : ns.length ≤ 1000) (hb : ∀ n ∈ ns, isI64 n) (hs : Sl w w.heap.size A (ns.flatMap decI)) :
    Calls Tryd.prog 38 #[.slice A ns.length cap] w fun e w' => e = .returned (vS (lst ns)) ∧ w' = w := by
  go_enter Tryd.func38, Tryd.ntmps38
  go_wp2_with fail
  go_loopw [3, 4] (fun s i wr => ∃ k : Nat, k ≤ ns.length ∧ i = .int .i64 (k : Int) ∧ s = vS (lst (ns.take k)) ∧ wr = w) (fun _ i _ => ns.length - (intOf i).toNat)
  case atStart => exact ⟨0, Nat.zero_le _, rfl, rfl, rfl⟩
  case round =>
    obtain ⟨k, hk, rfl, rfl, hwr⟩ := hrel
    subst hwr
    by_cases hlt : k < ns.length
    · obtain ⟨b, off, rfl, hbb, hcell⟩ := sl_int hs hlt
      have h0 := hcell k hlt
      have hbn := hb ns[k] (List.getElem_mem hlt)
      have HT := Lib.hid (rtxt_any _ ns[k] (Nat.le_refl _) hbn)
      have HK := Lib.hid (List.take_succ_eq_append_getElem hlt)
      have hL := lst_len ns hb k
      have hX := txt_len hbn
      have i1 : (k : Int) < (ns.length : Int) := by omega
      clear hcell hs hb
      generalize ns[k] = x at *
      by_cases hk0 : k = 0
      · subst hk0
        have HE := Lib.hid (show lst (ns.take (0 + 1)) = txt x by rw [HK.out]; rfl)
        rw [List.take_zero] at hL
        rw [Nat.add_zero] at h0
        generalize txt x = t at *
        have n0 : ¬ 9223372036854775807 < 0 + t.length := by omega
        clear HK
        go_wp2_with fail
        refine (HT.out _).mono ?_
        rintro e wx ⟨rfl, hwx⟩
        obtain rfl := hwx.symm
        go_wp2_with fail
        go_roundw
        case rel => exact ⟨1, by omega, rfl, by rw [HE.out]; first | rfl | exact congrArg Value.string (app_B [] t), by trivial⟩
        case measure => simp [intOf]; omega
      · have HE := Lib.hid (show lst (ns.take (k + 1)) = lst (ns.take k) ++ [44] ++ txt x by
          rw [HK.out, lst_snoc _ _ (take_ne (by omega) (by omega)), List.append_assoc]; rfl)
        have i2 : (0 : Int) < (k : Int) := by omega
        have n1 : ¬ 9223372036854775807 < (lst (ns.take k)).length + 1 := by omega
        have n2 : ¬ 9223372036854775807 < (lst (ns.take k)).length + 1 + (txt x).length := by omega
        generalize txt x = t at *
        clear HK
        go_wp2_with fail
        refine (HT.out _).mono ?_
        rintro e wx ⟨rfl, hwx⟩
        obtain rfl := hwx.symm
        go_wp2_with fail
        go_roundw
        case rel => exact ⟨k + 1, by omega, by go_num, by rw [HE.out]; show _ = Value.string (B _); rw [← app_B, ← app_B], by trivial⟩
        case measure => simp [intOf]; omega
    · obtain rfl : k = ns.length := by omega
      rw [List.take_length]
      go_wp2_with fail
      go_ret
      exact ⟨rfl, by trivial⟩
end Go.Proofs.YtcfdphfochfeoaaDoor.De
