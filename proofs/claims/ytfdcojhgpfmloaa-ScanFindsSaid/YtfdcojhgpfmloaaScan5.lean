/- Layer 30's law: laid. -/
import Derived.Test.YtfdcojhgpfmloaaScan3
import Derived.Test.YtfdcojhgpfmloaaAl1
namespace Go.Proofs.Ytfdcojhgpfmloaa.Ara
open Go.RowKit

theorem frame45 {a : Act} (h : a.tmps.size = 45) (hd : a.defers = []) : ∃ u : Nat → Value, a = { tmps := #[u 0, u 1, u 2, u 3, u 4, u 5, u 6, u 7, u 8, u 9, u 10, u 11, u 12, u 13, u 14, u 15, u 16, u 17, u 18, u 19, u 20, u 21, u 22, u 23, u 24, u 25, u 26, u 27, u 28, u 29, u 30, u 31, u 32, u 33, u 34, u 35, u 36, u 37, u 38, u 39, u 40, u 41, u 42, u 43, u 44], defers := [] } ∧ ∀ n, a.tmps.getD n undef = u n := by
  refine ⟨fun n => a.tmps.getD n undef, ?_, fun _ => rfl⟩
  have h1 := arr_lit a.tmps h
  cases a with
  | mk t d =>
    simp only at hd h1
    subst hd
    congr 1
theorem take_opsN (σ : Ar) (n : Int) : (σ.take n).2.ops = σ.ops := by
  unfold Ar.take
  split
  · rfl
  · split <;> rfl
theorem alk_new (m : Nat) : Alk (Ar.fresh m) ⟨m, [], 0, 0, 0, false⟩ := by
  refine ⟨?_, ?_, Nat.zero_le _, ?_, rfl, rfl, rfl, rfl⟩
  · simp [Ar.fresh, zerosW]
  · simp [Ar.fresh]
  · intro i _
    simp [Ar.fresh, zerosW, List.getD_eq_getElem?_getD, List.getElem?_replicate]
    split <;> rfl
/-- Both arenas, alike, made from block B on. -/
def Two (B : Nat) (W0 W : World) (σ : Ar) (ρ : Rf) : Prop := ArAt W (B + 1) B σ ∧ RfAt W (B + 1 + 1) (B + 1 + 1 + 1) ρ ∧ Alk σ ρ ∧ Below B W0 W
theorem Two.same {B : Nat} {W0 W W' : World} {σ : Ar} {ρ : Rf} (k : Two B W0 W σ ρ) (hb : Below W.heap.size W W') : Two B W0 W' σ ρ :=
  ⟨k.1.step hb, k.2.1.step hb, k.2.2.1, k.2.2.2.trans (hb.mono (by have := k.1.lt; omega))⟩
/-- What laid leaves. -/
def Laid (σ : Ar) (l : List Int) : Prop := σ.t = l.length ∧ σ.ws = l ∧ σ.ops = l.length
def LdJ (l : List Int) (A : Option Addr) (cap : Nat) (w : World) (a : Act) (W : World) : Prop :=
  a.tmps.size = 45 ∧ a.defers = [] ∧ a.tmps.getD 0 undef = .slice A l.length cap ∧ a.tmps.getD 4 undef = .pointer (some ⟨w.heap.size + 1, 0, none⟩) ∧ a.tmps.getD 5 undef = .pointer (some ⟨w.heap.size + 1 + 1, 0, none⟩) ∧
    ∃ (k : Nat) (σ : Ar) (ρ : Rf), a.tmps.getD 6 undef = .int .i64 k ∧ k ≤ l.length ∧ Two w.heap.size w W σ ρ ∧ σ.t = l.length ∧ σ.ops = k ∧ σ.ws = l.take k ++ List.replicate (l.length - k) 0
set_option maxHeartbeats 4000000 in
set_option maxRecDepth 100000 in
theorem laid_any (l : List Int) (A : Option Addr) (cap : Nat) (w : World) (hl : l.length ≤ 4096) (hs : Sl w w.heap.size A (l.map (Value.int .i64))) :
    Calls Try.prog 52 #[.slice A l.length cap] w fun e w' => e = .returned (.tuple #[.pointer (some ⟨w.heap.size + 1, 0, none⟩), .pointer (some ⟨w.heap.size + 1 + 1, 0, none⟩)]) ∧ ∃ σ ρ, Two w.heap.size w w' σ ρ ∧ Laid σ l := by
  have b0 : (l.length : Int) ≤ 4096 := by omega
  have hroom : room (l.length : Int) = l.length := by unfold room; rw [if_neg (by omega), if_neg (by omega)]; omega
  have HR := Lib.hid hroom
  clear hroom
  go_enter Try.func52, Try.ntmps52
  go_wp2_with fail
  refine (new_in (l.length : Int) _).mono ?_
  rintro e w1 ⟨rfl, hat, hz, hb⟩
  rw [HR.out] at hat
  have hz := Lib.hid hz
  go_wp2_with fail
  refine (rnew_any (l.length : Int) _).mono ?_
  rintro e w2 ⟨rfl, hr, hz2, hb2⟩
  rw [HR.out] at hr
  have h2 : Two w.heap.size w w2 (Ar.fresh l.length) ⟨l.length, [], 0, 0, 0, false⟩ := by
    have e := hz.out
    refine ⟨hat.step hb2, ?_, alk_new _, hb.trans (hb2.mono (by omega))⟩
    rw [e] at hr
    exact hr
  have H2 := Lib.hid h2
  rw [hz.out]
  clear h2 hr hz hz2 hb hb2 hat
  go_wp2_with fail
  have ht : (Ar.fresh l.length).take (l.length : Int) = ((1, 0), ⟨zerosW l.length, l.length, 0, 0, 0, false⟩) := by
    unfold Ar.take
    rw [if_neg (by omega), if_neg (by simp [Ar.fresh, zerosW])]
    simp [Ar.fresh]
  have HC := Lib.hid (take_any (w.heap.size + 1) w.heap.size _ w2 H2.out.1 (l.length : Int))
  have HA := Lib.hid (H2.out.2.2.1.take (l.length : Int))
  rw [ht] at HC HA
  clear ht
  refine HC.out.mono ?_
  rintro e w3 ⟨rfl, ha3, hm3⟩
  have hr3 := Lib.hid (H2.out.2.1.mod hm3 (by simp; omega))
  have hb3 : Below w.heap.size w w3 := H2.out.2.2.2.trans (hm3.below (by have := H2.out.1.lt; omega) (by simp))
  have ha3 := Lib.hid ha3
  clear HC
  go_wp2_with fail
  have HC := Lib.hid (rtake_any (w.heap.size + 1 + 1) (w.heap.size + 1 + 1 + 1) _ w3 hr3.out (l.length : Int))
  rw [HA.out.1] at HC
  refine HC.out.mono ?_
  rintro e w4 ⟨rfl, hr4, hm4⟩
  have hbase := hr3.out.2.1
  have H4 := Lib.hid (show Two w.heap.size w w4 ⟨zerosW l.length, l.length, 0, 0, 0, false⟩ _ from ⟨ha3.out.upd (hm4.upd hbase) (by omega) (by omega) (by simp) (by simp; omega), hr4, HA.out.2, hb3.trans ((hm4.upd hbase).below (by omega) (by simp; omega))⟩)
  clear HC HA ha3 hr3 hr4 hm4 hm3 hb3 H2
  generalize (Rf.take ⟨(l.length : Int), [], 0, 0, 0, false⟩ (l.length : Int)).2 = ρ4 at *
  go_wp2_with fail
  refine wp_loop (LdJ l A cap w) (fun a' _ => l.length - (intOf (a'.tmps.getD 6 undef)).toNat) ?_ ?_
  · exact ⟨rfl, rfl, rfl, rfl, rfl, 0, _, _, rfl, Nat.zero_le _, H4.out, rfl, rfl, by simp [zerosW]⟩
  · clear H4 hbase
    rintro a' W ⟨hsz, hdf, s0, s4, s5, k, σ, ρ, s6, hk, h2, ht, ho, hw⟩
    obtain ⟨u, rfl, hu⟩ := frame45 hsz hdf
    rw [hu] at s0 s4 s5 s6
    simp only [s0, s4, s5, s6]
    clear hsz hdf s0 s4 s5 s6 hu
    by_cases hlt : k < l.length
    · obtain ⟨b, off, rfl, hbb, hcell⟩ := (hs.below h2.2.2.2).at_ (by simp; omega)
      have h0 := hcell k (by simpa using hlt)
      rw [List.getElem_map] at h0
      have hop : σ.ops ≤ 1000000 := by omega
      have hop2 : ρ.ops < 1000000 := by rw [h2.2.2.1.2.2.2.2.1]; omega
      have H2 := Lib.hid h2
      have HT := Lib.hid ht
      have HO := Lib.hid ho
      have HW := Lib.hid (show (σ.op 2 ((k : Int) + 1) true l[k]).ws = l.take (k + 1) ++ List.replicate (l.length - (k + 1)) 0 by
        rw [Ar.op_in (by omega)]
        show σ.ws.set k l[k] = _
        rw [hw, List.set_append_right _ _ (by simp; omega), List.take_succ_eq_append_getElem hlt, List.append_assoc]
        congr 1
        rw [show k - (l.take k).length = 0 by simp; omega, show l.length - k = (l.length - (k + 1)) + 1 by omega, List.replicate_succ, List.set_cons_zero]
        rfl)
      have HOP := Lib.hid (show (σ.op 2 ((k : Int) + 1) true l[k]).ops = k + 1 ∧ (σ.op 2 ((k : Int) + 1) true l[k]).t = l.length by
        rw [Ar.op_in (by omega)]
        exact ⟨by show σ.ops + 1 = k + 1; omega, ht⟩)
      have HA := Lib.hid (h2.2.2.1.op 2 ((k : Int) + 1) l[k] true)
      generalize l[k] = y at *
      clear h2 ht ho hw hcell
      go_wp2_with fail
      refine (store_any _ _ σ _ H2.out.1 hop ((k : Int) + 1) y).mono ?_
      rintro e W2 ⟨rfl, ha2, hm2⟩
      have hr2 := Lib.hid (H2.out.2.1.mod hm2 (by simp; omega))
      have hb2 : Below w.heap.size w W2 := H2.out.2.2.2.trans (hm2.below (by have := H2.out.1.lt; omega) (by simp))
      have h0 := keepM hm2 h0 (by simp; omega)
      have ha2 := Lib.hid ha2
      go_wp2_with fail
      refine (rstore_any _ _ ρ _ hr2.out ((k : Int) + 1) hop2 y).mono ?_
      rintro e W3 ⟨rfl, hr3, hm3⟩
      have hbase := hr2.out.2.1
      have H3 := Lib.hid (show Two w.heap.size w W3 (σ.op 2 ((k : Int) + 1) true y) _ from ⟨ha2.out.upd (hm3.upd hbase) (by omega) (by omega) (by simp) (by simp; omega), hr3, HA.out, hb2.trans ((hm3.upd hbase).below (by omega) (by simp; omega))⟩)
      clear hr3 hm3 h0
      go_wp2_with fail
      exact ⟨⟨rfl, rfl, rfl, rfl, rfl, k + 1, _, _, rfl, hlt, H3.out, HOP.out.2, HOP.out.1, HW.out⟩, by simp [intOf]; omega⟩
    · obtain rfl : k = l.length := by omega
      have HH := Lib.hid (show ∃ σ ρ, Two w.heap.size w W σ ρ ∧ Laid σ l from ⟨σ, ρ, h2, ht, by simpa using hw, ho⟩)
      clear h2 ht ho hw
      go_wp2_with fail
      go_ret2
      exact ⟨rfl, HH.out⟩
end Go.Proofs.Ytfdcojhgpfmloaa.Ara
