/- Walks of package fair and its reference: Least, Fair. -/
import Derived.Test.YtmldkfmebplblaaFair
namespace Go.Proofs.Ytmldkfmebplblaa.Fai
open Go.RowKit

theorem frame59 {a : Act} (h : a.tmps.size = 59) (hd : a.defers = []) : ∃ u : Nat → Value, a = { tmps := #[u 0, u 1, u 2, u 3, u 4, u 5, u 6, u 7, u 8, u 9, u 10, u 11, u 12, u 13, u 14, u 15, u 16, u 17, u 18, u 19, u 20, u 21, u 22, u 23, u 24, u 25, u 26, u 27, u 28, u 29, u 30, u 31, u 32, u 33, u 34, u 35, u 36, u 37, u 38, u 39, u 40, u 41, u 42, u 43, u 44, u 45, u 46, u 47, u 48, u 49, u 50, u 51, u 52, u 53, u 54, u 55, u 56, u 57, u 58], defers := [] } ∧ ∀ n, a.tmps.getD n undef = u n := by
  refine ⟨fun n => a.tmps.getD n undef, ?_, fun _ => rfl⟩
  have h1 := arr_lit a.tmps h
  cases a with
  | mk t d =>
    simp only at hd h1
    subst hd
    congr 1

def vI (n : Nat) : Value := .int .i64 n
def zeros (n : Nat) : Array Value := ((List.replicate n 0).map vI).toArray
theorem made_zero (n : Nat) : madeCells #[.int .i64 0] n = zeros n := by
  apply Array.ext
  · simp [madeCells, zeros]
  · intro i h1 h2
    simp [madeCells, zeros, vI, Nat.mod_one]

def LeastJ (n : Nat) (l : List Int) (A : Option Addr) (cap : Nat) (w : World) (res : List Nat × Nat) (a : Act) (w' : World) : Prop :=
  a.tmps.size = 59 ∧ a.defers = [] ∧ a.tmps.getD 0 undef = .slice A l.length cap ∧ a.tmps.getD 5 undef = .int .i64 n ∧ a.tmps.getD 6 undef = .slice (some ⟨w.heap.size, 0, none⟩) n n ∧
  a.tmps.getD 16 undef = .slice A l.length cap ∧ a.tmps.getD 17 undef = .int .i64 l.length ∧
    ∃ (k lg : Nat) (last : List Nat), a.tmps.getD 7 undef = .int .i64 lg ∧ a.tmps.getD 18 undef = .int .i64 k ∧ k ≤ l.length ∧ lg ≤ k ∧ last.length = n ∧ (∀ x ∈ last, x ≤ k) ∧
      w'.heap[w.heap.size]? = some (.cells (last.map vI).toArray 3 (0, 0)) ∧ Below w.heap.size w w' ∧ scan n (l.drop k) k last lg = res
def LeastJ2 (n len : Nat) (l : List Int) (A : Option Addr) (cap : Nat) (w wl : World) (last : List Nat) (lg0 : Nat) (a : Act) (w' : World) : Prop :=
  a.tmps.size = 59 ∧ a.defers = [] ∧ a.tmps.getD 0 undef = .slice A l.length cap ∧
  a.tmps.getD 44 undef = .slice (some ⟨w.heap.size, 0, none⟩) n n ∧ a.tmps.getD 45 undef = .int .i64 n ∧
    ∃ k : Nat, a.tmps.getD 7 undef = .int .i64 (gaps len (last.take k) lg0) ∧ a.tmps.getD 46 undef = .int .i64 k ∧ k ≤ n ∧ w' = wl

theorem gaps_snoc (len : Nat) (last : List Nat) (lg k : Nat) (h : k < last.length) : gaps len (last.take (k + 1)) lg = max (gaps len (last.take k) lg) (len - last[k]) := by
  unfold gaps
  rw [List.take_succ_eq_append_getElem h, List.foldl_append]
  rfl
theorem gaps_le (len : Nat) (last : List Nat) (lg : Nat) (h : lg ≤ len) : gaps len last lg ≤ len := by
  have := (gaps_lt len last lg (len + 1)).2 ⟨by omega, fun f _ => by omega⟩
  omega

set_option maxHeartbeats 4000000 in
set_option maxRecDepth 100000 in
theorem least_any (l : List Int) (A : Option Addr) (cap : Nat) (t : Int) (w : World) (hm : l.length ≤ 65536) (hs : Sl w w.heap.size A (l.flatMap decI)) :
    Calls Try.prog 37 #[.slice A l.length cap, .int .i64 t] w fun e w' => e = .returned (.int .i64 (longest (som t) l + 1)) ∧ Below w.heap.size w w' := by
  have hle := som_le t
  have hso := fun W => some_any t W
  generalize som t = n at hle hso ⊢
  obtain ⟨res, hres⟩ : ∃ res, scan n l 0 (List.replicate n 0) 0 = res := ⟨_, rfl⟩
  have HF := Lib.hid (show longest n l = gaps l.length res.1 res.2 by rw [← hres]; rfl)
  have HR := Lib.hid hres
  have HS := Lib.hid hso
  clear hres hso
  have hmk : ∀ W : World, (Instr.makeSlice 34 (.int .i64 (n : Int)) (.int .i64 (n : Int))).run Try.prog W = .ok (.slice (some ⟨W.heap.size, 0, none⟩) n n) (W.alloc (.cells (zeros n) 3)) := fun W => by
    rw [run_make_row' (P := Try.prog) 34 3 (.int .i64 0) 8 Try.underlying34 infoI rfl .i64 .i64 n (by omega) (by omega) W, made_zero]
  have HK := Lib.hid hmk
  clear hmk
  go_enter Try.func37, Try.ntmps37
  go_wp2_with fail
  refine (HS.out _).mono ?_
  rintro e wx ⟨rfl, hwx⟩
  obtain rfl := hwx.symm
  have hmk := HK.out
  go_wp2_with fail
  clear hmk
  refine wp_loop (LeastJ n l A cap w res) (fun a' _ => l.length - (intOf (a'.tmps.getD 18 undef)).toNat) ?_ ?_
  · exact ⟨rfl, rfl, rfl, rfl, rfl, rfl, rfl, 0, 0, List.replicate n 0, rfl, rfl, Nat.zero_le _, Nat.le_refl _, by simp, by simp, heap_alloc_new _ _, below_new _ _, HR.out⟩
  · rintro a' w' ⟨hsz, hdf, s0, s5, s6, s16, s17, k, lg, last, s7, s18, hk, hlg, hll, hlk, hblk, hb, hrun⟩
    obtain ⟨u, rfl, hu⟩ := frame59 hsz hdf
    rw [hu] at s0 s5 s6 s7 s16 s17 s18
    simp only [s0, s5, s6, s7, s16, s17, s18]
    clear hsz hdf s0 s5 s6 s7 s16 s17 s18 hu
    have HX := Lib.hid hrun
    have HL := Lib.hid hlk
    clear hrun hlk
    by_cases hlt : k < l.length
    · obtain ⟨b, off, rfl, hbb, hcell⟩ := Sl_at (k := 1) (fun _ => rfl) (by omega) (hs.below hb) (by omega)
      have h0 := hcell k hlt 0 (by omega)
      simp only [decI, List.getElem?_cons_zero, Nat.add_zero, Nat.mul_one] at h0
      have hd := Lib.hid (List.drop_eq_getElem_cons hlt)
      clear hcell
      generalize l[k] = x at h0 hd
      by_cases hx0 : 0 ≤ x
      · obtain ⟨q, rfl⟩ := Int.eq_ofNat_of_zero_le hx0
        by_cases hxn : q < n
        · have hql : q < last.length := by omega
          have hc : w'.cell? ⟨w.heap.size, q, none⟩ = some (.int .i64 last[q]) := by
            simp [World.cell?, hblk, vI, hql]
          have hf : w'.frozen? ⟨w.heap.size, q, none⟩ = false := by simp [World.frozen?, hblk]
          have hlq := HL.out last[q] (List.getElem_mem _)
          have hset := blk_set hblk q (.int .i64 ((k + 1 : Nat) : Int))
          have hst := Lib.hid (show scan n ((q : Int) :: l.drop (k + 1)) k last lg = scan n (l.drop (k + 1)) (k + 1) (last.set q (k + 1)) (max lg (k - last[q])) by
            rw [scan, if_pos ⟨by omega, by omega⟩]
            simp [hql])
          have hmm : ∀ y ∈ last.set q (k + 1), y ≤ k + 1 := fun y hy => by
            rcases List.mem_or_eq_of_mem_set hy with h | h
            · have := HL.out y h; omega
            · omega
          have HM := Lib.hid hmm
          have HB := Lib.hid hset
          clear hmm hset hblk
          generalize last[q] = lq at hc hst hlq
          have HQ : (last.map vI).toArray.setIfInBounds q (.int .i64 ((k + 1 : Nat) : Int)) = ((last.set q (k + 1)).map vI).toArray := by
            simp [vI, List.map_set]
          have HQ' := Lib.hid HQ
          clear HQ
          go_wp2_with fail
          all_goals
            exact ⟨⟨rfl, rfl, rfl, rfl, rfl, rfl, rfl, k + 1, max lg (k - lq), last.set q (k + 1), congrArg (Value.int .i64) (by omega), rfl, hlt, by omega, by simpa using hll, HM.out, by rw [← HQ'.out]; exact HB.out, hb.setCell (p := ⟨w.heap.size, q, none⟩) (Nat.le_refl _) _, by rw [← hst.out, ← hd.out]; exact HX.out⟩, by simp [intOf]; omega⟩
        · have hst := Lib.hid (show scan n ((q : Int) :: l.drop (k + 1)) k last lg = scan n (l.drop (k + 1)) (k + 1) last lg by
            rw [scan, if_neg (by omega)])
          have HM := Lib.hid (show ∀ y ∈ last, y ≤ k + 1 from fun y hy => Nat.le_succ_of_le (HL.out y hy))
          have HB := Lib.hid hblk
          clear hblk
          go_wp2_with fail
          exact ⟨⟨rfl, rfl, rfl, rfl, rfl, rfl, rfl, k + 1, lg, last, rfl, rfl, hlt, by omega, hll, HM.out, HB.out, hb, by rw [← hst.out, ← hd.out]; exact HX.out⟩, by simp [intOf]; omega⟩
      · have hst := Lib.hid (show scan n (x :: l.drop (k + 1)) k last lg = scan n (l.drop (k + 1)) (k + 1) last lg by
          rw [scan, if_neg (by omega)])
        have HM := Lib.hid (show ∀ y ∈ last, y ≤ k + 1 from fun y hy => Nat.le_succ_of_le (HL.out y hy))
        have HB := Lib.hid hblk
        have hxx : x < 0 := by omega
        clear hblk hx0
        go_wp2_with fail
        exact ⟨⟨rfl, rfl, rfl, rfl, rfl, rfl, rfl, k + 1, lg, last, rfl, rfl, hlt, by omega, hll, HM.out, HB.out, hb, by rw [← hst.out, ← hd.out]; exact HX.out⟩, by simp [intOf]; omega⟩
    · have hkl : k = l.length := by omega
      have HZ := Lib.hid (show (last, lg) = res by rw [← HX.out, List.drop_of_length_le (by omega)]; rfl)
      have hlgl : lg ≤ l.length := by omega
      have HKL := Lib.hid hkl
      clear hkl
      go_wp2_with fail
      refine wp_loop (LeastJ2 n l.length l A cap w w' last lg) (fun a' _ => n - (intOf (a'.tmps.getD 46 undef)).toNat) ?_ ?_
      · exact ⟨rfl, rfl, rfl, rfl, rfl, 0, rfl, rfl, Nat.zero_le _, rfl⟩
      · rintro a' w'' ⟨hsz, hdf, s0, s44, s45, j, s7, s46, hj, rfl⟩
        obtain ⟨u, rfl, hu⟩ := frame59 hsz hdf
        rw [hu] at s0 s7 s44 s45 s46
        simp only [s0, s7, s44, s45, s46]
        clear hsz hdf s0 s7 s44 s45 s46 hu
        have hgl := gaps_le l.length (last.take j) lg hlgl
        by_cases hjn : j < n
        · have hjl : j < last.length := by omega
          have hc : w''.cell? ⟨w.heap.size, j, none⟩ = some (.int .i64 last[j]) := by
            simp [World.cell?, hblk, vI, hjl]
          have hsn := Lib.hid (gaps_snoc l.length last lg j hjl)
          have hlj : last[j] ≤ l.length := Nat.le_trans (HL.out _ (List.getElem_mem _)) hk
          generalize gaps l.length (last.take j) lg = gj at hsn hgl
          generalize last[j] = lj at hc hsn hlj
          go_wp2_with fail
          all_goals
            exact ⟨⟨rfl, rfl, rfl, rfl, rfl, j + 1, congrArg (Value.int .i64) (by rw [hsn.out]; omega), rfl, hjn, rfl⟩, by simp [intOf]; omega⟩
        · have HT := Lib.hid (show longest n l = gaps l.length (last.take j) lg by
            rw [HF.out, ← HZ.out, List.take_of_length_le (by omega)])
          go_wp2_with fail
          go_ret
          exact ⟨by rw [HT.out]; rfl, hb⟩
end Go.Proofs.Ytmldkfmebplblaa.Fai
