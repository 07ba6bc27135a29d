/- The law TenureAll: its walk. -/
import Derived.Test.YtmldkfmebplblaaTen7
import Derived.Test.YtmldkfmebplblaaTenP
namespace Go.Proofs.Ytmldkfmebplblaa.Ten
open Go.RowKit

theorem frame147 {a : Act} (h : a.tmps.size = 147) (hd : a.defers = []) : ∃ u : Nat → Value, a = { tmps := #[u 0, u 1, u 2, u 3, u 4, u 5, u 6, u 7, u 8, u 9, u 10, u 11, u 12, u 13, u 14, u 15, u 16, u 17, u 18, u 19, u 20, u 21, u 22, u 23, u 24, u 25, u 26, u 27, u 28, u 29, u 30, u 31, u 32, u 33, u 34, u 35, u 36, u 37, u 38, u 39, u 40, u 41, u 42, u 43, u 44, u 45, u 46, u 47, u 48, u 49, u 50, u 51, u 52, u 53, u 54, u 55, u 56, u 57, u 58, u 59, u 60, u 61, u 62, u 63, u 64, u 65, u 66, u 67, u 68, u 69, u 70, u 71, u 72, u 73, u 74, u 75, u 76, u 77, u 78, u 79, u 80, u 81, u 82, u 83, u 84, u 85, u 86, u 87, u 88, u 89, u 90, u 91, u 92, u 93, u 94, u 95, u 96, u 97, u 98, u 99, u 100, u 101, u 102, u 103, u 104, u 105, u 106, u 107, u 108, u 109, u 110, u 111, u 112, u 113, u 114, u 115, u 116, u 117, u 118, u 119, u 120, u 121, u 122, u 123, u 124, u 125, u 126, u 127, u 128, u 129, u 130, u 131, u 132, u 133, u 134, u 135, u 136, u 137, u 138, u 139, u 140, u 141, u 142, u 143, u 144, u 145, u 146], defers := [] } ∧ ∀ n, a.tmps.getD n undef = u n := by
  refine ⟨fun n => a.tmps.getD n undef, ?_, fun _ => rfl⟩
  have h1 := arr_lit a.tmps h
  cases a with
  | mk t d =>
    simp only at hd h1
    subst hd
    congr 1

def All1 (w : World) (l : List Ev) (s0 s1 : Value) (a : Act) (w' : World) : Prop :=
  a.tmps.size = 147 ∧ a.defers = [] ∧ a.tmps.getD 0 undef = s0 ∧ a.tmps.getD 1 undef = s1 ∧
    ∃ (k : Nat) (v : Value), a.tmps.getD 5 undef = v ∧ a.tmps.getD 6 undef = .int .i64 k ∧ k ≤ l.length ∧
      w'.ownsRow w.heap.size 46 4 v (entries (l.take k)).length ((entries (l.take k)).flatMap decEv) ∧ Below w.heap.size w w'
def All2 (w : World) (L : List Rn) (s0 s5 s7 s8 : Value) (a : Act) (w' : World) : Prop :=
  a.tmps.size = 147 ∧ a.defers = [] ∧ a.tmps.getD 0 undef = s0 ∧ a.tmps.getD 5 undef = s5 ∧ a.tmps.getD 7 undef = s7 ∧ a.tmps.getD 8 undef = s8 ∧
    ∃ i : Nat, a.tmps.getD 9 undef = .int .i64 (sumMany (L.take i)) ∧ a.tmps.getD 10 undef = .int .i64 (turnsTo L (i - 1)) ∧ a.tmps.getD 11 undef = .int .i64 i ∧ i ≤ L.length ∧ Below w.heap.size w w'
def All3 (w : World) (m : Nat) (s0 s5 s7 s8 s9 s10 s11 s12 : Value) (a : Act) (w' : World) : Prop :=
  a.tmps.size = 147 ∧ a.defers = [] ∧ a.tmps.getD 0 undef = s0 ∧ a.tmps.getD 5 undef = s5 ∧ a.tmps.getD 7 undef = s7 ∧ a.tmps.getD 8 undef = s8 ∧ a.tmps.getD 9 undef = s9 ∧ a.tmps.getD 10 undef = s10 ∧ a.tmps.getD 11 undef = s11 ∧ a.tmps.getD 12 undef = s12 ∧
    ∃ q n : Nat, a.tmps.getD 13 undef = .int .i64 q ∧ q ≤ m ∧ w' = w.drewN n

set_option maxHeartbeats 4000000 in
set_option maxRecDepth 100000 in
theorem all_walk (nodes : List Int) (l : List Ev) (A C : Option Addr) (c1 c2 : Nat) (w : World) (hn1 : nodes.length ≤ c1) (hn2 : c1 ≤ maxLen) (hm1 : l.length ≤ c2) (hm2 : c2 ≤ maxLen)
    (hs : Sl w w.heap.size A (nodes.flatMap decI)) (ht : Sl w w.heap.size C (l.flatMap decEv)) :
    Calls Try.prog 7 #[.slice A nodes.length c1, .slice C l.length c2] w fun e w' => e = .returned (.bool true) ∧ Below w.heap.size w w' := by
  have hm3 : l.length ≤ 9223372036854775807 := by simp only [maxLen] at hm2; omega
  have hn3 : nodes.length ≤ 9223372036854775807 := by simp only [maxLen] at hn2; omega
  by_cases h1 : nodes.length ≤ 20
  · by_cases h2 : l.length ≤ 60
    · have i1 : ¬ (20 : Int) < (nodes.length : Int) := by omega
      have i2 : ¬ (60 : Int) < (l.length : Int) := by omega
      obtain ⟨res, hres⟩ : ∃ res, ofAll nodes l = res := ⟨_, rfl⟩
      obtain ⟨E, hE⟩ : ∃ E, entries l = E := ⟨_, rfl⟩
      have hEl : E.length ≤ 60 := by rw [← hE]; exact Nat.le_trans (List.length_filter_le _ _) h2
      have HG := Lib.hid (all_good nodes l)
      have CA := fun W => of_sl nodes l A C c1 c2 W hn1 hn2 (by omega)
      rw [hres] at CA HG
      rw [hE] at HG
      have KA := Lib.hid CA
      have KE := Lib.hid hE
      clear CA hres hE
      obtain ⟨L, ok⟩ := res
      go_enter Try.func7, Try.ntmps7
      go_wp2_with fail
      refine wp_loop (All1 w l (.slice A nodes.length c1) (.slice C l.length c2)) (fun a' _ => l.length - (intOf (a'.tmps.getD 6 undef)).toNat) ?_ ?_
      · exact ⟨rfl, rfl, rfl, rfl, 0, _, rfl, rfl, Nat.zero_le _, World.ownsRow_nil _ _ _ _, Below.refl _ _⟩
      · rintro a' w' ⟨hsz, hdf, s0, s1, k, v, s5, s6, hk, hown, hb⟩
        obtain ⟨u, rfl, hu⟩ := frame147 hsz hdf
        rw [hu] at s0 s1 s5 s6
        simp only [s0, s1, s5, s6]
        clear hsz hdf s0 s1 s5 s6 hu
        by_cases hlt : k < l.length
        · have hf := Lib.hid (entries_snoc l k hlt)
          have hle := entries_le l k
          obtain ⟨b, off, rfl, hbb, hcell⟩ := Sl_at (k := 4) (fun _ => rfl) (by omega) (ht.below hb) (by omega)
          have h0 := hcell k hlt 0 (by omega)
          have h1 := hcell k hlt 1 (by omega)
          have h2 := hcell k hlt 2 (by omega)
          have h3 := hcell k hlt 3 (by omega)
          simp only [decEv, List.getElem?_cons_zero, List.getElem?_cons_succ, Nat.add_zero, ← Nat.add_assoc] at h0 h1 h2 h3
          clear hcell
          cases hent : isEnter l[k]
          · have hq : (l[k].kind == 2) = false := hent
            go_wp2_with fail
            exact ⟨⟨rfl, rfl, rfl, rfl, k + 1, _, rfl, rfl, hlt, by rw [hf.out, hent]; simpa using hown, hb⟩, by simp [intOf]; omega⟩
          · have hq : (l[k].kind == 2) = true := hent
            go_wp2_with (at_builtin; refine wpList_append1 (.tmp 35) (.tmp 40) 35 46 _ 4 32 rfl rfl Try.underlying35 infoEv rfl (by decide) w.heap.size _ _ _ _ _ _ _ _ hown rfl rfl ?cg rfl ?d1 ?d2 ?d3 ?d4 ?ck; case' ck => intro v' w1 hown1 hb1 _)
            case cg => first | rfl | simp
            case d1 => simp [Value.oneCell']
            case d2 => simp only [maxLen]; omega
            case d3 => omega
            case d4 => have := hb.size; omega
            exact ⟨⟨rfl, rfl, rfl, rfl, k + 1, _, rfl, rfl, hlt, by rw [hf.out, hent]; simpa [decEv] using hown1, hb.trans hb1⟩, by simp [intOf]; omega⟩
        · rw [List.take_of_length_le (by omega), KE.out] at hown
          obtain ⟨V5, d5, rfl, h51, h52, S5⟩ := own_slice hown
          have S5 : Sl w' w'.heap.size V5 (E.flatMap decEv) := S5
          have hs5 := hs.step hb
          have ht5 := ht.step hb
          clear hown
          go_wp2_with fail
          refine (KA.out _ hs5 ht5).mono ?_
          rintro e w1 ⟨V7, d7, rfl, h71, h72, S7, hb7⟩
          have hs7 := hs5.step hb7
          have S57 := S5.step hb7
          have H7 := below_chain hb hb7 (Nat.le_refl _)
          obtain ⟨kk, hg, hok⟩ := HG.out
          have HH := Lib.hid hg
          have HO := Lib.hid hok
          have hgat := Lib.hid hg.at_
          have hL : L.length ≤ 9223372036854775807 := by simp only [maxLen] at h72; omega
          clear hb hb7 S5 hs5 ht5 hg hok HG
          go_wp2_with fail
          refine wp_loop (All2 w1 L (.slice A nodes.length c1) (.slice V5 E.length d5) (.slice V7 L.length d7) (.bool ok)) (fun a' _ => L.length - (intOf (a'.tmps.getD 11 undef)).toNat) ?_ ?_
          · exact ⟨rfl, rfl, rfl, rfl, rfl, rfl, 0, rfl, rfl, rfl, Nat.zero_le _, Below.refl _ _⟩
          · rintro a' w' ⟨hsz, hdf, s0, s5, s7, s8, i, s9, s10, s11, hi, hb⟩
            obtain ⟨u, rfl, hu⟩ := frame147 hsz hdf
            rw [hu] at s0 s5 s7 s8 s9 s10 s11
            simp only [s0, s5, s7, s8, s9, s10, s11]
            clear hsz hdf s0 s5 s7 s8 s9 s10 s11 hu
            by_cases hlt : i < L.length
            · obtain ⟨a, m, g1, g2, g3, g4, g5, g6⟩ := hgat.out i hlt
              have hkk := HH.out.le
              have hsn := Lib.hid (show sumMany (L.take (i + 1)) = (a : Int) + m by
                rw [List.take_succ_eq_append_getElem hlt, sum_snoc, g1, g3])
              have G6 := Lib.hid g6
              have hss := S7.step hb
              obtain ⟨b, off, rfl, hbb, hcell⟩ := Sl_at (k := 3) (fun _ => rfl) (by omega) hss (by omega)
              have h0 := hcell i hlt 0 (by omega)
              have h1 := hcell i hlt 1 (by omega)
              have h2 := hcell i hlt 2 (by omega)
              have hp := hcell (i - 1) (by omega) 0 (by omega)
              simp only [decRn, List.getElem?_cons_zero, List.getElem?_cons_succ, Nat.add_zero, ← Nat.add_assoc] at h0 h1 h2 hp
              rw [g2] at h1
              rw [g3] at h2
              rw [g1]
              have hE5 := S57.step hb
              have hN := hs7.step hb
              have ht1 := Lib.hid (show turnsTo L (i + 1 - 1) = turnsTo L (i - 1) + (if decide (0 < i) && (L[i - 1].node != L[i].node) then 1 else 0) by
                cases i with
                | zero => simp [turnsTo]
                | succ j =>
                  simp only [Nat.add_sub_cancel, turnsTo, turnAt, List.getElem?_eq_getElem hlt, List.getElem?_eq_getElem (show j < L.length by omega), Nat.zero_lt_succ, decide_true, Bool.true_and]
                  rw [show (L[j + 1].node != L[j].node) = (L[j].node != L[j + 1].node) by rw [Bool.eq_iff_iff, bne_iff_ne, bne_iff_ne]; exact ne_comm])
              have htl := turnsTo_le L (i - 1)
              generalize L[i].node = nd at h0 ht1 G6
              generalize L[i - 1].node = np at hp ht1
              generalize turnsTo L (i - 1) = tn at ht1 htl
              clear hcell g1 g2 g3 g6
              have j1 := ibne_no (rfl : (a : Int) = a)
              have j2 : ¬ (m : Int) < 1 := by omega
              have j3 : ¬ (E.length : Int) - (a : Int) < (m : Int) := by omega
              have j4 : (a : Int) + m ≤ 60 := by omega
              go_wp2_with fail
              have kx2 : (w'.alloc (.cells #[.int .i64 nd, .int .i64 a, .int .i64 m] 48)).cell? ⟨w'.heap.size, 2, none⟩ = some (.int .i64 m) := by rw [World.cell?_alloc_at _ _ _ _ rfl]; rfl
              have kx0 : (w'.alloc (.cells #[.int .i64 nd, .int .i64 a, .int .i64 m] 48)).cell? ⟨w'.heap.size, 0, none⟩ = some (.int .i64 nd) := by rw [World.cell?_alloc_at _ _ _ _ rfl]; rfl
              have hbx := hb.alloc hb.size (.cells #[.int .i64 nd, .int .i64 a, .int .i64 m] 48)
              have hEx := hE5.push (.cells #[.int .i64 nd, .int .i64 a, .int .i64 m] 48)
              have hNx := hN.push (.cells #[.int .i64 nd, .int .i64 a, .int .i64 m] 48)
              have hpx : (w'.alloc (.cells #[.int .i64 nd, .int .i64 a, .int .i64 m] 48)).cell? ⟨b, off + (i - 1) * 3, none⟩ = some (.int .i64 np) := by rw [World.cell?_alloc_past _ _ _ (by have := hb.size; omega)]; exact hp
              clear h0 h1 h2 hp hss hE5 hN hb
              generalize w'.alloc (.cells #[.int .i64 nd, .int .i64 a, .int .i64 m] 48) = wx at *
              generalize w'.heap.size = g at *
              refine wp_loop (All3 wx m (.slice A nodes.length c1) (.slice V5 E.length d5) (.slice (some ⟨b, off, none⟩) L.length d7) (.bool ok) (.int .i64 a) (.int .i64 tn) (.int .i64 i) (.pointer (some ⟨g, 0, none⟩))) (fun a' _ => m - (intOf (a'.tmps.getD 13 undef)).toNat) ?_ ?_
              · exact ⟨rfl, rfl, rfl, rfl, rfl, rfl, rfl, rfl, rfl, rfl, 0, 0, rfl, Nat.zero_le _, rfl⟩
              · rintro a'' w'' ⟨hsz, hdf, s0, s5, s7, s8, s9, s10, s11, s12, q, n, s13, hq, hwn⟩
                have ky0 : w''.cell? ⟨g, 0, none⟩ = some (.int .i64 nd) := by rw [hwn]; exact kx0
                have ky2 : w''.cell? ⟨g, 2, none⟩ = some (.int .i64 m) := by rw [hwn]; exact kx2
                have hEy : Sl w'' w''.heap.size V5 (E.flatMap decEv) := by rw [hwn]; exact hEx
                have hNy : Sl w'' w''.heap.size A (nodes.flatMap decI) := by rw [hwn]; exact hNx
                have hpy : w''.cell? ⟨b, off + (i - 1) * 3, none⟩ = some (.int .i64 np) := by rw [hwn]; exact hpx
                have HW := Lib.hid hwn
                clear hwn
                obtain ⟨u, rfl, hu⟩ := frame147 hsz hdf
                rw [hu] at s0 s5 s7 s8 s9 s10 s11 s12 s13
                simp only [s0, s5, s7, s8, s9, s10, s11, s12, s13]
                clear hsz hdf s0 s5 s7 s8 s9 s10 s11 s12 s13 hu
                by_cases hqm : q < m
                · have haq : a + q < E.length := by omega
                  obtain ⟨b5, off5, rfl, hbb5, hcell⟩ := Sl_at (k := 4) (fun _ => rfl) (by omega) hEy (by omega)
                  have f1 := hcell (a + q) haq 1 (by omega)
                  have f3 := hcell (a + q) haq 3 (by omega)
                  obtain ⟨e1, e2⟩ := G6.out q hqm haq
                  simp only [decEv, List.getElem?_cons_zero, List.getElem?_cons_succ, Nat.add_zero, ← Nat.add_assoc] at f1 f3
                  have E1 := ibne_no e1
                  have E2 := ibne_no e2
                  generalize E[a + q].count = cq at f3 E1 e1
                  generalize E[a + q].thread = tq at f1 E2 e2
                  clear hcell e1 e2
                  have b0 : (a : Int) + (q : Int) < (E.length : Int) := by omega
                  have b1 : (0 : Int) ≤ (a : Int) + (q : Int) := by omega
                  have b2 : (q : Int) < (m : Int) := by omega
                  have W1 : IntKind.i64.wrap ((a : Int) + (q : Int)) = (a : Int) + (q : Int) := IntWalk.i64_in _ (by omega)
                  have W2 : IntKind.i64.wrap ((q : Int) + 1) = (q : Int) + 1 := IntWalk.i64_in _ (by omega)
                  have W3 : ((a : Int) + (q : Int)).toNat = a + q := by omega
                  go_wp2_with fail
                  go_quiet ((go_at_call 31; exact Calls.quiet_of_same (node_any nodes A c1 _ _ _ hn1 hn2 hNy)))
                  go_wp2_with fail
                  exact ⟨⟨rfl, rfl, rfl, rfl, rfl, rfl, rfl, rfl, rfl, rfl, q + 1, n + nq, rfl, hqm, by rw [HW.out, World.drewN_drewN]⟩, by simp [intOf]; omega⟩
                · have b2 : ¬ (q : Int) < (m : Int) := by omega
                  have hby : Below w1.heap.size w1 w'' := by rw [HW.out]; exact below_drewN hbx n
                  by_cases hi0 : 0 < i
                  · have ii : (0 : Int) < (i : Int) := by omega
                    have ii1 : ((i : Int) - 1).toNat = i - 1 := by omega
                    have W4 : IntKind.i64.wrap ((i : Int) - 1) = (i : Int) - 1 := IntWalk.i64_in _ (by omega)
                    have ii2 : (0 : Int) ≤ (i : Int) - 1 := by omega
                    have ii3 : (i : Int) - 1 < (L.length : Int) := by omega
                    by_cases hne : (np != nd) = true
                    · go_wp2_with fail
                      go_quiet (fail)
                      go_wp2_with fail
                      exact ⟨⟨rfl, rfl, rfl, rfl, rfl, rfl, i + 1, by rw [hsn.out]; rfl, by rw [ht1.out]; simp [hi0, hne], rfl, hlt, below_drewN hby _⟩, by simp [intOf]; omega⟩
                    · have hne' : (np != nd) = false := by simpa using hne
                      clear hne
                      go_wp2_with fail
                      go_quiet (fail)
                      go_wp2_with fail
                      exact ⟨⟨rfl, rfl, rfl, rfl, rfl, rfl, i + 1, by rw [hsn.out]; rfl, by rw [ht1.out]; simp [hi0, hne'], rfl, hlt, below_drewN hby _⟩, by simp [intOf]; omega⟩
                  · have hd0 : decide (0 < i) = false := by simpa using hi0
                    go_wp2_with fail
                    go_quiet (fail)
                    go_wp2_with fail
                    exact ⟨⟨rfl, rfl, rfl, rfl, rfl, rfl, i + 1, by rw [hsn.out]; rfl, by rw [ht1.out]; simp [hd0], rfl, hlt, below_drewN hby _⟩, by simp [intOf]; omega⟩
            · obtain rfl : i = L.length := by omega
              have hss := S7.step hb
              have hT := Lib.hid (show sumMany (L.take L.length) = (kk : Int) by rw [List.take_of_length_le (Nat.le_refl _)]; exact HH.out.sum)
              have hlo := HH.out.longest
              have hkl := HH.out.le
              have hlo1 := hlo.2
              rw [hT.out]
              rw [show (turnsTo L (L.length - 1) : Int) = turns L from rfl]
              have j1 : ((kk : Int) == (E.length : Int)) = ok := by
                have := HO.out
                cases ok with
                | true => exact nbeq (this.2 rfl)
                | false => exact nbeq_no (fun h => by simpa using this.1 h)
              have j2 : ((decide (kk = E.length)) == ok) = true := by
                have := HO.out
                cases ok with
                | true => simp [this.2 rfl]
                | false => simp; intro h; simpa using this.1 h
              clear hlo
              go_wp2_with fail
              refine (turns_any L V7 d7 _ hL hss).mono ?_
              rintro e w3 ⟨rfl, hb3⟩
              have hs3 := hss.step hb3
              have H3 := below_chain (H7.trans (hb.mono H7.size)) hb3 (Nat.le_refl _)
              go_wp2_with fail
              refine (longest_any L V7 d7 _ hL hs3).mono ?_
              rintro e w4 ⟨rfl, hb4⟩
              have H4 := below_chain H3 hb4 (Nat.le_refl _)
              go_wp2_with fail
              refine (awake_any _).mono ?_
              rintro e w5 ⟨rfl, hb5⟩
              go_wp2_with fail
              go_ret
              exact ⟨rfl, below_chain H4 hb5 (Nat.le_refl _)⟩
    · have i2 : (60 : Int) < (l.length : Int) := by omega
      by_cases h3 : (20 : Int) < (nodes.length : Int)
      all_goals
        go_enter Try.func7, Try.ntmps7
        go_wp2_with (go_at_call 25; refine (awake_any _).mono ?_; rintro e w' ⟨rfl, hb⟩)
        go_ret
        exact ⟨rfl, hb⟩
  · have i1 : (20 : Int) < (nodes.length : Int) := by omega
    go_enter Try.func7, Try.ntmps7
    go_wp2_with (go_at_call 25; refine (awake_any _).mono ?_; rintro e w' ⟨rfl, hb⟩)
    go_ret
    exact ⟨rfl, hb⟩

theorem all_law (w : World) (A : Option Addr) (c1 : Nat) (nodes : List Int) (hn1 : nodes.length ≤ c1) (hn2 : c1 ≤ maxLen) (_w0 : ∀ a ∈ nodes, isI64 a) (hs : Sl w w.heap.size A (nodes.flatMap decI))
    (C : Option Addr) (c2 : Nat) (l : List Ev) (hm1 : l.length ≤ c2) (hm2 : c2 ≤ maxLen) (_w1 : ∀ e ∈ l, isI64 e.kind ∧ isI64 e.thread ∧ isI64 e.count) (ht : Sl w w.heap.size C (l.flatMap decEv)) :
    Calls Try.prog 7 #[.slice A nodes.length c1, .slice C l.length c2] w fun e w' => e = .returned (.bool true) ∧ Below w.heap.size w w' :=
  all_walk nodes l A C c1 c2 w hn1 hn2 hm1 hm2 hs ht
end Go.Proofs.Ytmldkfmebplblaa.Ten
