/- Walks of layer 12's reference: stay. -/
import Derived.Test.YtdkggdfofmgdlaaSp4
import Derived.Laws.ResultCell
namespace Go.Proofs.Ytdkggdfofmgdlaa.Sp
open Go.RowKit
def vSt (s : St) : Value := .agg #[.int .i64 s.th, .bool s.rd, .int .i64 s.ask, .int .i64 s.en, .int .i64 s.ex, .int .i64 s.re, .int .i64 s.ct]
theorem below2 (w : World) (a b : Obj) : Below w.heap.size w ((w.alloc a).alloc b) := (below_new _ _).alloc (by simp) _
set_option maxRecDepth 100000 in
set_option maxHeartbeats 4000000 in
theorem stay_any (l : List E) (A : Option Addr) (cap a : Nat) (w : World) (hm : l.length ≤ 1000) (ha : a < l.length) (hs : Sl w w.heap.size A (l.flatMap dE)) :
    Calls Try.prog 20 #[.slice A l.length cap, .int .i64 (a : Int)] w fun e w' => e = .returned (vSt (stay l a (l.getD a e0))) ∧ Below w.heap.size w w' := by
  obtain ⟨b, off, rfl, hbb, hcell⟩ := sl_ev hs (by omega)
  have HS := Lib.hid hs
  have HCE := Lib.hid hcell
  obtain ⟨c0, c1, c2, c3⟩ := hcell a ha
  have i1 : (a : Int) < (l.length : Int) := by omega
  have HBH := Lib.hid (fun W (x kd t : Int) (hx : x ≤ 1000) (hb : Below w.heap.size w W) => behind_any l (some ⟨b, off, none⟩) cap x kd t W hm hx ((HS.out.below hb).more hb.size))
  clear hs hcell
  generalize l.getD a e0 = ev at *
  obtain ⟨n, hn⟩ : ∃ n, bh l (a : Int) 2 ev.th = n := ⟨_, rfl⟩
  obtain ⟨x, hx⟩ : ∃ x, bh l n 3 ev.th = x := ⟨_, rfl⟩
  obtain ⟨r, hr⟩ : ∃ r, bh l x 4 ev.th = r := ⟨_, rfl⟩
  have rn := bh_range l (a : Int) 2 ev.th
  have rx := bh_range l n 3 ev.th
  rw [hn] at rn
  rw [hx] at rx
  have hst : stay l a ev = ⟨ev.th, ev.rd, a, n, x, r, if 0 ≤ n then (l.getD n.toNat e0).ct else 0⟩ := by
    unfold stay
    rw [hn, hx, hr]
  have H1 := fun W hb => HBH.out W (a : Int) 2 ev.th (by omega) hb
  have H2 := fun W hb => HBH.out W n 3 ev.th (by omega) hb
  have H3 := fun W hb => HBH.out W x 4 ev.th (by omega) hb
  simp only [hn] at H1
  simp only [hx] at H2
  simp only [hr] at H3
  have H1 := Lib.hid H1
  have H2 := Lib.hid H2
  have H3 := Lib.hid H3
  rw [hst]
  clear hn hx hr hst
  by_cases h0 : 0 ≤ n
  · obtain ⟨m, rfl⟩ := Int.eq_ofNat_of_zero_le h0
    have hml : m < l.length := by omega
    obtain ⟨_, _, _, d3⟩ := HCE.out m hml
    rw [if_pos h0, Int.toNat_natCast]
    have i2 : (m : Int) < (l.length : Int) := by omega
    generalize l.getD m e0 = ev2 at *
    go_enter Try.func20, Try.ntmps20
    go_wp2_with fail
    refine (H1.out _ (below2 _ _ _)).mono ?_
    rintro e wx ⟨rfl, hwx⟩
    obtain rfl := hwx.symm
    go_wp2_with fail
    refine (H2.out _ (below2 _ _ _)).mono ?_
    rintro e wx ⟨rfl, hwx⟩
    obtain rfl := hwx.symm
    go_wp2_with fail
    refine (H3.out _ (below2 _ _ _)).mono ?_
    rintro e wx ⟨rfl, hwx⟩
    obtain rfl := hwx.symm
    go_wp2_with fail
    refine bodyPost_ret (v := vSt ⟨ev.th, ev.rd, a, m, x, r, ev2.ct⟩) ?_ rfl ⟨rfl, ?_⟩
    · simp [results, Try.results20, go_sem, vSt]
    · exact below2 _ _ _
  · rw [if_neg h0]
    go_enter Try.func20, Try.ntmps20
    go_wp2_with fail
    refine (H1.out _ (below2 _ _ _)).mono ?_
    rintro e wx ⟨rfl, hwx⟩
    obtain rfl := hwx.symm
    go_wp2_with fail
    refine (H2.out _ (below2 _ _ _)).mono ?_
    rintro e wx ⟨rfl, hwx⟩
    obtain rfl := hwx.symm
    go_wp2_with fail
    refine (H3.out _ (below2 _ _ _)).mono ?_
    rintro e wx ⟨rfl, hwx⟩
    obtain rfl := hwx.symm
    go_wp2_with fail
    refine bodyPost_ret (v := vSt ⟨ev.th, ev.rd, a, n, x, r, 0⟩) ?_ rfl ⟨rfl, ?_⟩
    · simp [results, Try.results20, go_sem, vSt]
    · exact below2 _ _ _
end Go.Proofs.Ytdkggdfofmgdlaa.Sp
