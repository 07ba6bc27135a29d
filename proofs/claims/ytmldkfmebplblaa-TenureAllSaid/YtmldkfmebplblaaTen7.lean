/- The law TenureSays: its walk. -/
import Derived.Test.YtmldkfmebplblaaTen6
namespace Go.Proofs.Ytmldkfmebplblaa.Ten
open Go.RowKit

theorem same_self (l : List Rn) (A C : Option Addr) (c1 c2 : Nat) (w : World) (hm : l.length ≤ 9223372036854775807) (hs : Sl w w.heap.size A (l.flatMap decRn)) (ht : Sl w w.heap.size C (l.flatMap decRn)) :
    Calls Try.prog 28 #[.slice A l.length c1, .slice C l.length c2] w fun e w' => e = .returned (.bool true) ∧ Below w.heap.size w w' := by
  have := same_any l l A C c1 c2 w hm hm hs ht
  simpa using this

set_option maxHeartbeats 4000000 in
theorem says_walk (nodes : List Int) (l : List Ev) (A C : Option Addr) (c1 c2 : Nat) (t : Int) (w : World) (hn1 : nodes.length ≤ c1) (hn2 : c1 ≤ maxLen) (hm1 : l.length ≤ c2) (hm2 : c2 ≤ maxLen)
    (hs : Sl w w.heap.size A (nodes.flatMap decI)) (ht : Sl w w.heap.size C (l.flatMap decEv)) :
    Calls Try.prog 6 #[.slice A nodes.length c1, .slice C l.length c2, .int .i64 t] w fun e w' => e = .returned (.bool true) ∧ Below w.heap.size w w' := by
  have hm3 : l.length ≤ 9223372036854775807 := by simp only [maxLen] at hm2; omega
  have hn3 : nodes.length ≤ 9223372036854775807 := by simp only [maxLen] at hn2; omega
  by_cases h1 : nodes.length ≤ 20
  · by_cases h2 : l.length ≤ 60
    · have i1 : ¬ (20 : Int) < (nodes.length : Int) := by omega
      have i2 : ¬ (60 : Int) < (l.length : Int) := by omega
      obtain ⟨res, hres⟩ : ∃ res, ofAll nodes l = res := ⟨_, rfl⟩
      have CA := fun W => of_sl nodes l A C c1 c2 W hn1 hn2 (by omega)
      have CR := fun W => rof_sl nodes l A C c1 c2 W hn1 hn2 (by omega)
      rw [hres] at CA CR
      have KA := Lib.hid CA
      have KR := Lib.hid CR
      clear CA CR hres
      obtain ⟨L, ok⟩ := res
      have ee : (ok == ok) = true := by simp
      go_enter Try.func6, Try.ntmps6
      go_wp2_with fail
      refine (KA.out _ hs ht).mono ?_
      rintro e w1 ⟨V1, d1, rfl, h11, h12, S1, hb1⟩
      have hs1 := hs.step hb1
      have ht1 := ht.step hb1
      go_wp2_with fail
      refine (KR.out _ hs1 ht1).mono ?_
      rintro e w2 ⟨V2, d2, rfl, h21, h22, S2, hb2⟩
      have hs2 := hs1.step hb2
      have S12 := S1.step hb2
      have H2 := below_chain hb1 hb2 (Nat.le_refl _)
      have hL : L.length ≤ 9223372036854775807 := by simp only [maxLen] at h12; omega
      clear hb1 hb2 S1 hs1 ht1
      go_wp2_with fail
      refine (same_self L V1 V2 d1 d2 _ hL S12 S2).mono ?_
      rintro e w3 ⟨rfl, hb3⟩
      have S13 := S12.step hb3
      have S23 := S2.step hb3
      have hs3 := hs2.step hb3
      have H3 := below_chain H2 hb3 (Nat.le_refl _)
      clear hb3 H2 S12 S2 hs2
      go_wp2_with fail
      refine (longest_any L V1 d1 _ hL S13).mono ?_
      rintro e w4 ⟨rfl, hb4⟩
      have S24 := S23.step hb4
      have hs4 := hs3.step hb4
      have H4 := below_chain H3 hb4 (Nat.le_refl _)
      clear hb4 H3 S13 S23 hs3
      go_wp2_with fail
      refine (rlongest_any L V2 d2 _ hL S24).mono ?_
      rintro e w5 ⟨rfl, hb5⟩
      have hs5 := hs4.step hb5
      have H5 := below_chain H4 hb5 (Nat.le_refl _)
      clear hb5 H4 S24 hs4
      go_wp2_with fail
      refine (node_any nodes A c1 t _ _ hn1 hn2 hs5).mono ?_
      rintro e w6 ⟨rfl, hw6⟩
      obtain rfl := hw6.symm
      go_wp2_with fail
      refine (rnode_any nodes A c1 t _ _ hn3 hs5).mono ?_
      rintro e w7 ⟨rfl, hw7⟩
      obtain rfl := hw7.symm
      go_wp2_with fail
      refine (awake_any _).mono ?_
      rintro e w8 ⟨rfl, hb8⟩
      go_wp2_with fail
      go_ret
      exact ⟨rfl, below_chain H5 hb8 (Nat.le_refl _)⟩
    · have i2 : (60 : Int) < (l.length : Int) := by omega
      by_cases h3 : (20 : Int) < (nodes.length : Int)
      all_goals
        go_enter Try.func6, Try.ntmps6
        go_wp2_with (go_at_call 25; refine (awake_any _).mono ?_; rintro e w' ⟨rfl, hb⟩)
        go_ret
        exact ⟨rfl, hb⟩
  · have i1 : (20 : Int) < (nodes.length : Int) := by omega
    go_enter Try.func6, Try.ntmps6
    go_wp2_with (go_at_call 25; refine (awake_any _).mono ?_; rintro e w' ⟨rfl, hb⟩)
    go_ret
    exact ⟨rfl, hb⟩

theorem reads_ev {H : Type} {enc : TypeId × Value → H} : Reads enc Try.prog 46 decEv (fun e => isI64 e.kind ∧ isI64 e.thread ∧ isI64 e.count) :=
  (reads_s4 (d0 := Value.int .i64) (d1 := Value.int .i64) (d2 := Value.bool) (d3 := Value.int .i64) Try.underlying46 (by kernel_rfl) (by kernel_rfl) (reads_i64 Try.underlying3) (reads_i64 Try.underlying3) (reads_bool Try.underlying4) (reads_i64 Try.underlying3)).map
    (fun p => ⟨p.1, p.2.1, p.2.2.1, p.2.2.2⟩) (fun _ => rfl) (fun _ h => ⟨h.1, h.2.1, h.2.2.2⟩)
theorem reads_int {H : Type} {enc : TypeId × Value → H} : Reads enc Try.prog 3 decI isI64 := reads_i64 Try.underlying3

theorem says_law (w : World) (A : Option Addr) (c1 : Nat) (nodes : List Int) (hn1 : nodes.length ≤ c1) (hn2 : c1 ≤ maxLen) (_w0 : ∀ a ∈ nodes, isI64 a) (hs : Sl w w.heap.size A (nodes.flatMap decI))
    (C : Option Addr) (c2 : Nat) (l : List Ev) (hm1 : l.length ≤ c2) (hm2 : c2 ≤ maxLen) (_w1 : ∀ e ∈ l, isI64 e.kind ∧ isI64 e.thread ∧ isI64 e.count) (ht : Sl w w.heap.size C (l.flatMap decEv)) (t : Int) (_w2 : isI64 t) :
    Calls Try.prog 6 #[.slice A nodes.length c1, .slice C l.length c2, .int .i64 t] w fun e w' => e = .returned (.bool true) ∧ Below w.heap.size w w' :=
  says_walk nodes l A C c1 c2 t w hn1 hn2 hm1 hm2 hs ht
end Go.Proofs.Ytmldkfmebplblaa.Ten
