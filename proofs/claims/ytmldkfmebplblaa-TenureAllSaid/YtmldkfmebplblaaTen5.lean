/- Walks of the reference of layer 13: Of. -/
import Derived.Test.YtmldkfmebplblaaTen4
namespace Go.Proofs.Ytmldkfmebplblaa.Ten
open Go.RowKit

theorem frame82 {a : Act} (h : a.tmps.size = 82) (hd : a.defers = []) : ∃ u : Nat → Value, a = { tmps := #[u 0, u 1, u 2, u 3, u 4, u 5, u 6, u 7, u 8, u 9, u 10, u 11, u 12, u 13, u 14, u 15, u 16, u 17, u 18, u 19, u 20, u 21, u 22, u 23, u 24, u 25, u 26, u 27, u 28, u 29, u 30, u 31, u 32, u 33, u 34, u 35, u 36, u 37, u 38, u 39, u 40, u 41, u 42, u 43, u 44, u 45, u 46, u 47, u 48, u 49, u 50, u 51, u 52, u 53, u 54, u 55, u 56, u 57, u 58, u 59, u 60, u 61, u 62, u 63, u 64, u 65, u 66, u 67, u 68, u 69, u 70, u 71, u 72, u 73, u 74, u 75, u 76, u 77, u 78, u 79, u 80, u 81], defers := [] } ∧ ∀ n, a.tmps.getD n undef = u n := by
  refine ⟨fun n => a.tmps.getD n undef, ?_, fun _ => rfl⟩
  have h1 := arr_lit a.tmps h
  cases a with
  | mk t d =>
    simp only at hd h1
    subst hd
    congr 1

def RofJ (nodes : List Int) (l : List Ev) (A C : Option Addr) (c1 c2 : Nat) (w : World) (target : List Rn × Bool) (a : Act) (w' : World) : Prop :=
  a.tmps.size = 82 ∧ a.defers = [] ∧ a.tmps.getD 0 undef = .slice A nodes.length c1 ∧ a.tmps.getD 1 undef = .slice C l.length c2 ∧
    ∃ (k n : Nat) (out : List Rn) (v : Value), a.tmps.getD 6 undef = v ∧ a.tmps.getD 7 undef = .int .i64 n ∧ a.tmps.getD 8 undef = .int .i64 k ∧
      w'.ownsRow w.heap.size 48 3 v out.length (out.flatMap decRn) ∧ Below w.heap.size w w' ∧ k ≤ l.length ∧ n ≤ k ∧ out.length ≤ n ∧ (∀ r ∈ out, 1 ≤ r.many ∧ r.many ≤ n) ∧ run nodes (entries (l.drop k)) n out = target

theorem entries_hit {l : List Ev} {k : Nat} (hk : k < l.length) (h : isEnter l[k] = true) : entries (l.drop k) = l[k] :: entries (l.drop (k + 1)) := by
  unfold entries
  rw [List.drop_eq_getElem_cons hk, List.filter_cons, if_pos h]
theorem entries_miss {l : List Ev} {k : Nat} (hk : k < l.length) (h : isEnter l[k] = false) : entries (l.drop k) = entries (l.drop (k + 1)) := by
  unfold entries
  rw [List.drop_eq_getElem_cons hk, List.filter_cons, if_neg (by simp [h])]

theorem own_cast {w : World} {B : Nat} {T : TypeId} {k : Nat} {v : Value} {n n' : Nat} {xs xs' : List Value} (h : w.ownsRow B T k v n xs) (hn : n = n') (hx : xs = xs') : w.ownsRow B T k v n' xs' := by
  subst hn hx
  exact h
theorem last_cells {w : World} {B : Nat} {v : Value} {out : List Rn} {r : Rn} (h : w.ownsRow B 48 3 v (out ++ [r]).length ((out ++ [r]).flatMap decRn)) :
    ∃ g cap, v = .slice (some ⟨g, 0, none⟩) (out.length + 1) cap ∧ w.cell? ⟨g, out.length * 3, none⟩ = some (.int .i64 r.node) ∧ w.cell? ⟨g, out.length * 3 + 2, none⟩ = some (.int .i64 r.many) ∧ w.frozen? ⟨g, out.length * 3 + 2, none⟩ = false ∧ B ≤ g ∧
      w.ownsRow B 48 3 (.slice (some ⟨g, 0, none⟩) (out.length + 1) cap) (out.length + 1) ((out ++ [r]).flatMap decRn) ∧
      ∀ m, ((w.drewN m).setCell ⟨g, out.length * 3 + 2, none⟩ (.int .i64 (r.many + 1))).ownsRow B 48 3 (.slice (some ⟨g, 0, none⟩) (out.length + 1) cap) (out ++ [{ r with many := r.many + 1 }]).length ((out ++ [{ r with many := r.many + 1 }]).flatMap decRn) := by
  rcases h.2 with ⟨_, h0⟩ | ⟨g, cap, cur, rfl, hb, hg, hnc, hcm, hcs, htake⟩
  · simp at h0
  · have hfl := flat_len (dec := decRn) (k := 3) (fun _ => rfl) out
    have c0 := h.cellAt (out.length * 3) (by simp <;> omega)
    have c2 := h.cellAt (out.length * 3 + 2) (by simp <;> omega)
    rw [List.flatMap_append, List.getElem?_append_right (by omega), hfl] at c0 c2
    have hl : (out ++ [r]).length = out.length + 1 := by simp
    refine ⟨g, cap, by rw [hl], by simpa [decRn] using c0, by simpa [decRn] using c2, h.frozenAt _, hb, by rw [hl] at h; exact h, fun m => ?_⟩
    have := ((own_drewN h m).stored (out.length * 3 + 2) (.int .i64 (r.many + 1))).1
    rw [List.flatMap_append, List.set_append_right _ _ (by omega), hfl] at this
    rw [hl] at this
    exact own_cast this (by simp) (by simp [decRn])

theorem run_cons_new {nodes : List Int} {e : Ev} {es : List Ev} {k : Nat} {out : List Rn} (h1 : ¬ goesOn nodes out e) (h2 : e.count = 1) :
    run nodes (e :: es) k out = run nodes es (k + 1) (out ++ [⟨nodeOf nodes e.thread, k, 1⟩]) := by
  rw [run]
  unfold step
  cases h : out.getLast? with
  | none => simp [h2]
  | some r =>
    have : ¬ (r.node = nodeOf nodes e.thread ∧ e.count = r.many + 1) := fun hh => h1 ⟨r, h, hh.1, hh.2⟩
    dsimp only
    rw [if_neg this, if_pos h2]
theorem run_cons_no {nodes : List Int} {e : Ev} {es : List Ev} {k : Nat} {out : List Rn} (h1 : ¬ goesOn nodes out e) (h2 : ¬ e.count = 1) :
    run nodes (e :: es) k out = (out, false) := by
  rw [run]
  unfold step
  cases h : out.getLast? with
  | none => simp [h2]
  | some r =>
    have : ¬ (r.node = nodeOf nodes e.thread ∧ e.count = r.many + 1) := fun hh => h1 ⟨r, h, hh.1, hh.2⟩
    dsimp only
    rw [if_neg this, if_neg h2]
theorem snoc_of {α : Type} (l : List α) : l = [] ∨ ∃ l' x, l = l' ++ [x] := by
  rcases List.eq_nil_or_concat l with h | ⟨a, b, h⟩
  · exact .inl h
  · exact .inr ⟨a, b, by simpa using h⟩

set_option maxHeartbeats 4000000 in
set_option maxRecDepth 100000 in
theorem rof_any0 (nodes : List Int) (l : List Ev) (target : List Rn × Bool) (A C : Option Addr) (c1 c2 : Nat) (w : World) (hn1 : nodes.length ≤ c1) (hn2 : c1 ≤ maxLen) (hm : l.length ≤ 65536)
    (htar : Hid (run nodes (entries l) 0 [] = target))
    (hs : Sl w w.heap.size A (nodes.flatMap decI)) (ht : Sl w w.heap.size C (l.flatMap decEv)) :
    Calls Try.prog 27 #[.slice A nodes.length c1, .slice C l.length c2] w fun e w' => ∃ v, e = .returned (.tuple #[v, .bool target.2]) ∧
      w'.ownsRow w.heap.size 48 3 v target.1.length (target.1.flatMap decRn) ∧ Below w.heap.size w w' := by
  have hnl : nodes.length ≤ 9223372036854775807 := by simp only [maxLen] at hn2; omega
  go_enter Try.func27, Try.ntmps27
  go_wp2_with fail
  refine wp_loop (RofJ nodes l A C c1 c2 w target) (fun a' _ => l.length - (intOf (a'.tmps.getD 8 undef)).toNat) ?_ ?_
  · exact ⟨rfl, rfl, rfl, rfl, 0, 0, [], _, rfl, rfl, rfl, World.ownsRow_nil _ _ _ _, Below.refl _ _, Nat.zero_le _, Nat.le_refl _, Nat.le_refl _, by simp, htar.out⟩
  · rintro a' w' ⟨hsz, hdf, s0, s1, k, n, out, v, s6, s7, s8, hown, hb, hk, hnk, hon, hmany, hrun⟩
    obtain ⟨u, rfl, hu⟩ := frame82 hsz hdf
    rw [hu] at s0 s1 s6 s7 s8
    simp only [s0, s1, s6, s7, s8]
    clear hsz hdf s0 s1 s6 s7 s8 hu
    have HR := Lib.hid hrun
    clear hrun
    by_cases hlt : k < l.length
    · obtain ⟨b, off, rfl, hbb, hcell⟩ := Sl_at (k := 4) (fun _ => rfl) (by omega) (ht.below hb) (by omega)
      have h0 := hcell k hlt 0 (by omega)
      have h1 := hcell k hlt 1 (by omega)
      have h3 := hcell k hlt 3 (by omega)
      simp only [decEv, List.getElem?_cons_zero, List.getElem?_cons_succ, Nat.add_zero, ← Nat.add_assoc] at h0 h1 h3
      have hsN : Sl w' w.heap.size A (nodes.flatMap decI) := hs.below hb
      clear hcell
      cases hent : isEnter l[k]
      · have hq : (l[k].kind != 2) = true := by simpa [isEnter] using hent
        have HE := Lib.hid (entries_miss hlt hent)
        clear hent
        go_wp2_with fail
        exact ⟨⟨rfl, rfl, rfl, rfl, k + 1, n, out, v, rfl, rfl, rfl, hown, hb, hlt, by omega, hon, hmany, by rw [← HE.out]; exact HR.out⟩, by simp [intOf]; omega⟩
      · have hq : (l[k].kind != 2) = false := by simpa [isEnter] using hent
        have HE := Lib.hid (entries_hit hlt hent)
        clear hent
        rcases snoc_of out with rfl | ⟨out', r, rfl⟩
        · have HM := Lib.hid hmany
          clear hmany
          have HX := Lib.hid (not_goes_nil (nodes := nodes) (e := l[k]))
          obtain ⟨A0, c0, rfl, _, _, _⟩ := own_slice hown
          have hi0 : ¬ (0 : Int) ≤ -1 := by omega
          have hi1 : decide ((0 : Int) ≤ -1) = false := by decide
          by_cases hc : l[k].count = 1
          · have hcb := ibeq hc
            have HC := Lib.hid hc
            clear hc
            go_wp2_with (go_at_call 32; refine (rnode_any nodes A c1 _ _ _ hnl hsN).mono ?_; rintro e wx ⟨rfl, hwx⟩; obtain rfl := hwx.symm)
            go_quiet (fail)
            go_wp2_with (at_builtin; refine wpList_append1 (.tmp 72) (.tmp 76) 36 48 _ 3 24 rfl rfl Try.underlying36 infoRn rfl (by decide) w.heap.size _ _ _ _ _ _ _ _ (own_drewN hown _) rfl rfl ?cgc1 rfl ?d1c1 ?d2c1 ?d3c1 ?d4c1 ?ckc1; case' ckc1 => intro v' w2 hown1 hb2 _)
            case cgc1 => first | rfl | simp
            case d1c1 => simp [Value.oneCell']
            case d2c1 => simp [maxLen]
            case d3c1 => simp <;> omega
            case d4c1 => have := hb.size; simp; omega
            have HO := own_rn (r := ⟨nodeOf nodes l[k].thread, n, 1⟩) hown1
            clear hown1
            go_wp2_with fail
            refine ⟨⟨rfl, rfl, rfl, rfl, k + 1, n + 1, [] ++ [⟨nodeOf nodes l[k].thread, n, 1⟩], v', rfl, rfl, rfl, HO, (below_drewN hb _).trans hb2, hlt, by omega, by simp <;> omega, ?_, ?_⟩, by simp [intOf]; omega⟩
            · intro x hx
              rcases List.mem_append.1 hx with hx | hx
              · have := HM.out x hx
                omega
              · obtain rfl : x = ⟨nodeOf nodes l[k].thread, n, 1⟩ := by simpa using hx
                simp <;> omega
            · rw [← HR.out, HE.out, run_cons_new HX.out HC.out]
          · have hcb := ibeq_no hc
            have HC := Lib.hid hc
            clear hc
            go_wp2_with (go_at_call 32; refine (rnode_any nodes A c1 _ _ _ hnl hsN).mono ?_; rintro e wx ⟨rfl, hwx⟩; obtain rfl := hwx.symm)
            go_quiet (fail)
            go_wp2_with fail
            go_ret2
            rw [← HR.out, HE.out, run_cons_no HX.out HC.out]
            exact ⟨_, rfl, own_drewN hown _, below_drewN hb _⟩
        · obtain ⟨g, cap, rfl, g0, g2, gf, hBg, hown', hset⟩ := last_cells hown
          obtain ⟨hr0, hr1⟩ := hmany r (by simp)
          have hol : out'.length + 1 ≤ n := by simpa using hon
          have hn65 : n ≤ 65536 := by omega
          have HM := Lib.hid hmany
          clear hmany
          by_cases hgo : r.node = nodeOf nodes l[k].thread ∧ l[k].count = r.many + 1
          · have q1 := ibeq hgo.1
            have q2 := ibeq hgo.2
            have HG := Lib.hid hgo
            clear hgo
            go_wp2_with (go_at_call 32; refine (rnode_any nodes A c1 _ _ _ hnl hsN).mono ?_; rintro e wx ⟨rfl, hwx⟩; obtain rfl := hwx.symm)
            go_quiet (fail)
            go_wp2_with fail
            refine ⟨⟨rfl, rfl, rfl, rfl, k + 1, n + 1, out' ++ [{ r with many := r.many + 1 }], _, rfl, rfl, rfl, hset _, (below_drewN hb _).setCell (p := ⟨g, out'.length * 3 + 2, none⟩) hBg _, hlt, by omega, by simp <;> omega, ?_, ?_⟩, by simp [intOf]; omega⟩
            · intro x hx
              rcases List.mem_append.1 hx with hx | hx
              · have := HM.out x (List.mem_append_left _ hx)
                omega
              · obtain rfl : x = { r with many := r.many + 1 } := by simpa using hx
                simp; omega
            · rw [← HR.out, HE.out, run]
              simp [step, HG.out.1, HG.out.2]
          · have HX := Lib.hid (not_goes_last (out := out') hgo)
            by_cases hc : l[k].count = 1
            · have hcb := ibeq hc
              have HC := Lib.hid hc
              by_cases hnd : r.node = nodeOf nodes l[k].thread
              · have q1 := ibeq hnd
                have q2 : (l[k].count == r.many + 1) = false := ibeq_no (fun h => hgo ⟨hnd, h⟩)
                clear hgo hc hnd
                go_wp2_with (go_at_call 32; refine (rnode_any nodes A c1 _ _ _ hnl hsN).mono ?_; rintro e wx ⟨rfl, hwx⟩; obtain rfl := hwx.symm)
                go_quiet (fail)
                go_wp2_with (at_builtin; refine wpList_append1 (.tmp 72) (.tmp 76) 36 48 _ 3 24 rfl rfl Try.underlying36 infoRn rfl (by decide) w.heap.size _ _ _ _ _ _ _ _ (own_drewN hown' _) rfl rfl ?cga1 rfl ?d1a1 ?d2a1 ?d3a1 ?d4a1 ?cka1; case' cka1 => intro v' w2 hown1 hb2 _)
                case cga1 => first | rfl | simp
                case d1a1 => simp [Value.oneCell']
                case d2a1 => simp only [maxLen]; omega
                case d3a1 => omega
                case d4a1 => have := hb.size; simp; omega
                have HO := own_rn (out := out' ++ [r]) (r := ⟨nodeOf nodes l[k].thread, n, 1⟩) (own_cast hown1 (by simp) rfl)
                clear hown1
                go_wp2_with fail
                refine ⟨⟨rfl, rfl, rfl, rfl, k + 1, n + 1, (out' ++ [r]) ++ [⟨nodeOf nodes l[k].thread, n, 1⟩], v', rfl, rfl, rfl, HO, (below_drewN hb _).trans hb2, hlt, by omega, by simp <;> omega, ?_, ?_⟩, by simp [intOf]; omega⟩
                · intro x hx
                  rcases List.mem_append.1 hx with hx | hx
                  · have := HM.out x hx
                    omega
                  · obtain rfl : x = ⟨nodeOf nodes l[k].thread, n, 1⟩ := by simpa using hx
                    simp <;> omega
                · rw [← HR.out, HE.out, run_cons_new HX.out HC.out]
              · have q1 := ibeq_no hnd
                clear hgo hc hnd
                go_wp2_with (go_at_call 32; refine (rnode_any nodes A c1 _ _ _ hnl hsN).mono ?_; rintro e wx ⟨rfl, hwx⟩; obtain rfl := hwx.symm)
                go_quiet (fail)
                go_wp2_with (at_builtin; refine wpList_append1 (.tmp 72) (.tmp 76) 36 48 _ 3 24 rfl rfl Try.underlying36 infoRn rfl (by decide) w.heap.size _ _ _ _ _ _ _ _ (own_drewN hown' _) rfl rfl ?cgb1 rfl ?d1b1 ?d2b1 ?d3b1 ?d4b1 ?ckb1; case' ckb1 => intro v' w2 hown1 hb2 _)
                case cgb1 => first | rfl | simp
                case d1b1 => simp [Value.oneCell']
                case d2b1 => simp only [maxLen]; omega
                case d3b1 => omega
                case d4b1 => have := hb.size; simp; omega
                have HO := own_rn (out := out' ++ [r]) (r := ⟨nodeOf nodes l[k].thread, n, 1⟩) (own_cast hown1 (by simp) rfl)
                clear hown1
                go_wp2_with fail
                refine ⟨⟨rfl, rfl, rfl, rfl, k + 1, n + 1, (out' ++ [r]) ++ [⟨nodeOf nodes l[k].thread, n, 1⟩], v', rfl, rfl, rfl, HO, (below_drewN hb _).trans hb2, hlt, by omega, by simp <;> omega, ?_, ?_⟩, by simp [intOf]; omega⟩
                · intro x hx
                  rcases List.mem_append.1 hx with hx | hx
                  · have := HM.out x hx
                    omega
                  · obtain rfl : x = ⟨nodeOf nodes l[k].thread, n, 1⟩ := by simpa using hx
                    simp <;> omega
                · rw [← HR.out, HE.out, run_cons_new HX.out HC.out]
            · have hcb := ibeq_no hc
              have HC := Lib.hid hc
              by_cases hnd : r.node = nodeOf nodes l[k].thread
              · have q1 := ibeq hnd
                have q2 : (l[k].count == r.many + 1) = false := ibeq_no (fun h => hgo ⟨hnd, h⟩)
                clear hgo hc hnd
                go_wp2_with (go_at_call 32; refine (rnode_any nodes A c1 _ _ _ hnl hsN).mono ?_; rintro e wx ⟨rfl, hwx⟩; obtain rfl := hwx.symm)
                go_quiet (fail)
                go_wp2_with fail
                go_ret2
                rw [← HR.out, HE.out, run_cons_no HX.out HC.out]
                exact ⟨_, rfl, own_drewN hown _, below_drewN hb _⟩
              · have q1 := ibeq_no hnd
                clear hgo hc hnd
                go_wp2_with (go_at_call 32; refine (rnode_any nodes A c1 _ _ _ hnl hsN).mono ?_; rintro e wx ⟨rfl, hwx⟩; obtain rfl := hwx.symm)
                go_quiet (fail)
                go_wp2_with fail
                go_ret2
                rw [← HR.out, HE.out, run_cons_no HX.out HC.out]
                exact ⟨_, rfl, own_drewN hown _, below_drewN hb _⟩
    · have HL := Lib.hid (show entries (l.drop k) = [] by rw [List.drop_of_length_le (by omega)]; rfl)
      go_wp2_with fail
      go_ret2
      rw [← HR.out, HL.out]
      exact ⟨_, rfl, hown, hb⟩

theorem rof_any (nodes : List Int) (l : List Ev) (A C : Option Addr) (c1 c2 : Nat) (w : World) (hn1 : nodes.length ≤ c1) (hn2 : c1 ≤ maxLen) (hm : l.length ≤ 65536)
    (hs : Sl w w.heap.size A (nodes.flatMap decI)) (ht : Sl w w.heap.size C (l.flatMap decEv)) :
    Calls Try.prog 27 #[.slice A nodes.length c1, .slice C l.length c2] w fun e w' => ∃ v, e = .returned (.tuple #[v, .bool (ofAll nodes l).2]) ∧
      w'.ownsRow w.heap.size 48 3 v (ofAll nodes l).1.length ((ofAll nodes l).1.flatMap decRn) ∧ Below w.heap.size w w' :=
  rof_any0 nodes l _ A C c1 c2 w hn1 hn2 hm rfl hs ht
end Go.Proofs.Ytmldkfmebplblaa.Ten
