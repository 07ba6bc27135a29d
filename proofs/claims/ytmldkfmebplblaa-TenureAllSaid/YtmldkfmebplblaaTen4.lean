/- Walks of package tenure and its reference: Of. -/
import Derived.Test.YtmldkfmebplblaaTen3
namespace Go.Proofs.Ytmldkfmebplblaa.Ten
open Go.RowKit

/-- What one entry does to the tenures so far. -/
def step (nodes : List Int) (out : List Rn) (n : Nat) (e : Ev) : Option (List Rn) :=
  match out.getLast? with
  | some r => if r.node = nodeOf nodes e.thread ∧ e.count = r.many + 1 then some (out.dropLast ++ [{ r with many := r.many + 1 }])
      else if e.count = 1 then some (out ++ [⟨nodeOf nodes e.thread, n, 1⟩]) else none
  | none => if e.count = 1 then some (out ++ [⟨nodeOf nodes e.thread, n, 1⟩]) else none
def run (nodes : List Int) : List Ev → Nat → List Rn → List Rn × Bool
  | [], _, out => (out, true)
  | e :: es, n, out => match step nodes out n e with
    | some out' => run nodes es (n + 1) out'
    | none => (out, false)
def ofAll (nodes : List Int) (l : List Ev) : List Rn × Bool := run nodes (entries l) 0 []

/-- Does an entry go on in the last tenure? -/
def goesOn (nodes : List Int) (out : List Rn) (e : Ev) : Prop := ∃ r, out.getLast? = some r ∧ r.node = nodeOf nodes e.thread ∧ e.count = r.many + 1

theorem run_go {nodes : List Int} {E : List Ev} {k : Nat} (hk : k < E.length) {out : List Rn} {r : Rn} (h1 : r.node = nodeOf nodes E[k].thread) (h2 : E[k].count = r.many + 1) :
    run nodes (E.drop k) k (out ++ [r]) = run nodes (E.drop (k + 1)) (k + 1) (out ++ [{ r with many := r.many + 1 }]) := by
  rw [List.drop_eq_getElem_cons hk, run]
  simp [step, h1, h2]
theorem run_new {nodes : List Int} {E : List Ev} {k : Nat} (hk : k < E.length) {out : List Rn} (h1 : ¬ goesOn nodes out E[k]) (h2 : E[k].count = 1) :
    run nodes (E.drop k) k out = run nodes (E.drop (k + 1)) (k + 1) (out ++ [⟨nodeOf nodes E[k].thread, k, 1⟩]) := by
  rw [List.drop_eq_getElem_cons hk, run]
  unfold step
  cases h : out.getLast? with
  | none => simp [h2]
  | some r =>
    have : ¬ (r.node = nodeOf nodes E[k].thread ∧ E[k].count = r.many + 1) := fun hh => h1 ⟨r, h, hh.1, hh.2⟩
    dsimp only
    rw [if_neg this, if_pos h2]
theorem run_no {nodes : List Int} {E : List Ev} {k : Nat} (hk : k < E.length) {out : List Rn} (h1 : ¬ goesOn nodes out E[k]) (h2 : ¬ E[k].count = 1) :
    run nodes (E.drop k) k out = (out, false) := by
  rw [List.drop_eq_getElem_cons hk, run]
  unfold step
  cases h : out.getLast? with
  | none => simp [h2]
  | some r =>
    have : ¬ (r.node = nodeOf nodes E[k].thread ∧ E[k].count = r.many + 1) := fun hh => h1 ⟨r, h, hh.1, hh.2⟩
    simp only [this, if_false, h2]
theorem run_end {nodes : List Int} {E : List Ev} {k : Nat} (hk : E.length ≤ k) {out : List Rn} : run nodes (E.drop k) k out = (out, true) := by
  rw [List.drop_of_length_le hk, run]
theorem not_goes_nil {nodes : List Int} {e : Ev} : ¬ goesOn nodes [] e := by rintro ⟨r, h, _⟩; simp at h
theorem not_goes_last {nodes : List Int} {out : List Rn} {r : Rn} {e : Ev} (h : ¬ (r.node = nodeOf nodes e.thread ∧ e.count = r.many + 1)) : ¬ goesOn nodes (out ++ [r]) e := by
  rintro ⟨s, h1, h2⟩
  rw [List.getLast?_concat] at h1
  obtain rfl : r = s := by simpa using h1
  exact h h2

/-- What holds at the label 'next'. -/
def AtNext (B : Nat) (w1 : World) (nodes : List Int) (E : List Ev) (target : List Rn × Bool) (v : Value) (k : Nat) (out : List Rn) (w : World) : Prop :=
  w.ownsRow B 48 3 v out.length (out.flatMap decRn) ∧ Below B w1 w ∧ k ≤ E.length ∧ out.length ≤ k ∧ run nodes (E.drop k) k out = target ∧ ∀ h : k < E.length, ¬ goesOn nodes out E[k]
/-- What holds at the label 'more'. -/
def AtMore (B : Nat) (w1 : World) (nodes : List Int) (E : List Ev) (target : List Rn × Bool) (v : Value) (k : Nat) (out : List Rn) (g : Nat) (r : Rn) (w : World) : Prop :=
  w.ownsRow B 48 3 v out.length (out.flatMap decRn) ∧ Below B w1 w ∧ k < E.length ∧ out.length ≤ k ∧ B ≤ g ∧ w.heap[g]? = some (.cells #[.int .i64 r.node, .int .i64 r.frm, .int .i64 r.many] 48 (0, 0)) ∧ (∀ b, v.ownBlock = some b → b ≠ g) ∧
    0 ≤ r.many ∧ r.many ≤ k ∧ run nodes (E.drop (k + 1)) (k + 1) (out ++ [{ r with many := r.many + 1 }]) = target
def NextJ (nodes : List Int) (n2 : Nat) (A C : Option Addr) (c1 c2 : Nat) (w : World) (E : List Ev) (target : List Rn × Bool) (a : Act) (w' : World) : Prop :=
  a.tmps.size = 70 ∧ a.defers = [] ∧ a.tmps.getD 0 undef = .slice A nodes.length c1 ∧ a.tmps.getD 1 undef = .slice C n2 c2 ∧
    ∃ (w1 : World) (A2 : Option Addr) (c3 k : Nat) (out : List Rn) (v : Value), a.tmps.getD 6 undef = v ∧ a.tmps.getD 7 undef = .slice A2 E.length c3 ∧ a.tmps.getD 8 undef = .int .i64 k ∧
      Below w.heap.size w w1 ∧ Sl w1 w1.heap.size A2 (E.flatMap decEv) ∧ AtNext w1.heap.size w1 nodes E target v k out w'
def MoreJ (nodes : List Int) (n2 : Nat) (A C : Option Addr) (c1 c2 : Nat) (w : World) (E : List Ev) (target : List Rn × Bool) (a : Act) (w' : World) : Prop :=
  a.tmps.size = 70 ∧ a.defers = [] ∧ a.tmps.getD 0 undef = .slice A nodes.length c1 ∧ a.tmps.getD 1 undef = .slice C n2 c2 ∧
    ∃ (w1 : World) (A2 : Option Addr) (c3 k : Nat) (out : List Rn) (v : Value) (g : Nat) (r : Rn), a.tmps.getD 6 undef = v ∧ a.tmps.getD 7 undef = .slice A2 E.length c3 ∧ a.tmps.getD 8 undef = .int .i64 k ∧ a.tmps.getD 9 undef = .pointer (some ⟨g, 0, none⟩) ∧
      Below w.heap.size w w1 ∧ Sl w1 w1.heap.size A2 (E.flatMap decEv) ∧ AtMore w1.heap.size w1 nodes E target v k out g r w'
theorem frame70 {a : Act} (h : a.tmps.size = 70) (hd : a.defers = []) : ∃ u : Nat → Value, a = { tmps := #[u 0, u 1, u 2, u 3, u 4, u 5, u 6, u 7, u 8, u 9, u 10, u 11, u 12, u 13, u 14, u 15, u 16, u 17, u 18, u 19, u 20, u 21, u 22, u 23, u 24, u 25, u 26, u 27, u 28, u 29, u 30, u 31, u 32, u 33, u 34, u 35, u 36, u 37, u 38, u 39, u 40, u 41, u 42, u 43, u 44, u 45, u 46, u 47, u 48, u 49, u 50, u 51, u 52, u 53, u 54, u 55, u 56, u 57, u 58, u 59, u 60, u 61, u 62, u 63, u 64, u 65, u 66, u 67, u 68, u 69], defers := [] } ∧ ∀ n, a.tmps.getD n undef = u n := by
  refine ⟨fun n => a.tmps.getD n undef, ?_, fun _ => rfl⟩
  have h1 := arr_lit a.tmps h
  cases a with
  | mk t d =>
    simp only at hd h1
    subst hd
    congr 1

theorem own_rn {w : World} {B : Nat} {v : Value} {out : List Rn} {r : Rn} (h : w.ownsRow B 48 3 v (out.length + 1) (out.flatMap decRn ++ [.int .i64 r.node, .int .i64 r.frm, .int .i64 r.many])) :
    w.ownsRow B 48 3 v (out ++ [r]).length ((out ++ [r]).flatMap decRn) := by
  simpa [decRn] using h

set_option maxHeartbeats 4000000 in
set_option maxRecDepth 100000 in
theorem of_any0 (nodes : List Int) (l : List Ev) (E : List Ev) (target : List Rn × Bool) (A C : Option Addr) (c1 c2 : Nat) (w : World) (hn1 : nodes.length ≤ c1) (hn2 : c1 ≤ maxLen) (hm : l.length ≤ 65536)
    (hE : Hid (entries l = E)) (hEl : E.length ≤ 65536) (htar : Hid (run nodes E 0 [] = target))
    (hs : Sl w w.heap.size A (nodes.flatMap decI)) (ht : Sl w w.heap.size C (l.flatMap decEv)) :
    Calls Try.prog 26 #[.slice A nodes.length c1, .slice C l.length c2] w fun e w' => ∃ v, e = .returned (.tuple #[v, .bool target.2]) ∧
      w'.ownsRow w.heap.size 48 3 v target.1.length (target.1.flatMap decRn) ∧ Below w.heap.size w w' := by
  go_enter Try.func26, Try.ntmps26
  go_wp2_with fail
  refine wp_scope_two 0 1 (NextJ nodes l.length A C c1 c2 w E target) (MoreJ nodes l.length A C c1 c2 w E target) (fun a' _ => 65536 - (intOf (a'.tmps.getD 8 undef)).toNat) rfl rfl ?_ ?_ ?_
  · rintro a' w' ⟨hsz, hdf, s0, s1, w1, A2, c3, k, out, v, g, r, s6, s7, s8, s9, hb1, hsE, hown, hb, hk, hol, hBg, hg, hne, hr0, hr1, hrun⟩
    obtain ⟨u, rfl, hu⟩ := frame70 hsz hdf
    rw [hu] at s0 s1 s6 s7 s8 s9
    simp only [s0, s1, s6, s7, s8, s9]
    clear hsz hdf s0 s1 s6 s7 s8 s9 hu
    have HR := Lib.hid hrun
    have HN := Lib.hid hne
    clear hrun hne
    have k0 : w'.cell? ⟨g, 0, none⟩ = some (.int .i64 r.node) := by simp [World.cell?, hg]
    have k1 : w'.cell? ⟨g, 1, none⟩ = some (.int .i64 r.frm) := by simp [World.cell?, hg]
    have k2 : w'.cell? ⟨g, 2, none⟩ = some (.int .i64 r.many) := by simp [World.cell?, hg]
    have f2 : w'.frozen? ⟨g, 2, none⟩ = false := by simp [World.frozen?, hg]
    have HG := Lib.hid hg
    clear hg
    have hmb : 0 ≤ r.many + 1 ∧ r.many + 1 ≤ 65537 := by omega
    by_cases hlt : k + 1 < E.length
    · obtain ⟨b, off, rfl, hbb, hcell⟩ := Sl_at (k := 4) (fun _ => rfl) (by omega) (hsE.below hb) (by omega)
      have h1 := hcell (k + 1) hlt 1 (by omega)
      have h3 := hcell (k + 1) hlt 3 (by omega)
      simp only [decEv, List.getElem?_cons_zero, List.getElem?_cons_succ, Nat.add_zero, ← Nat.add_assoc] at h1 h3
      have hsN : Sl ((w'.setCell ⟨g, 2, none⟩ (.int .i64 (r.many + 1)))) w.heap.size A (nodes.flatMap decI) :=
        ((hs.below hb1).below (hb.mono hb1.size)).keep fun p hp => World.cell?_setCell_other _ _ _ _ (fun e => by have := hb1.size; subst e; simp at hp; omega)
      have q1 : (w'.setCell ⟨g, 2, none⟩ (.int .i64 (r.many + 1))).cell? ⟨b, off + (k + 1) * 4 + 1, none⟩ = some (.int .i64 E[k + 1].thread) := (World.cell?_setCell_other _ _ _ _ (fun e => by injection e with e1; omega)).trans h1
      have q3 : (w'.setCell ⟨g, 2, none⟩ (.int .i64 (r.many + 1))).cell? ⟨b, off + (k + 1) * 4 + 3, none⟩ = some (.int .i64 E[k + 1].count) := (World.cell?_setCell_other _ _ _ _ (fun e => by injection e with e1; omega)).trans h3
      have n0 : (w'.setCell ⟨g, 2, none⟩ (.int .i64 (r.many + 1))).cell? ⟨g, 0, none⟩ = some (.int .i64 r.node) := (World.cell?_setCell_other _ _ _ _ (by simp)).trans k0
      have n1 : (w'.setCell ⟨g, 2, none⟩ (.int .i64 (r.many + 1))).cell? ⟨g, 1, none⟩ = some (.int .i64 r.frm) := (World.cell?_setCell_other _ _ _ _ (by simp)).trans k1
      have n2 : (w'.setCell ⟨g, 2, none⟩ (.int .i64 (r.many + 1))).cell? ⟨g, 2, none⟩ = some (.int .i64 (r.many + 1)) := World.cell?_setCell_same _ _ _ k2
      clear hcell h1 h3
      have i1 : (k : Int) + 1 < (E.length : Int) := by omega
      by_cases hc : E[k + 1].count = r.many + 1 + 1
      · have hcb := ibeq hc
        by_cases hnd : nodeOf nodes E[k + 1].thread = r.node
        · have hnb := ibeq hnd
          go_wp2_with fail
          go_quiet ((go_at_call 31; exact Calls.quiet_of_same (node_any nodes A c1 _ _ _ hn1 hn2 hsN)))
          go_wp2_with fail
          go_step3
          refine Or.inr ⟨rfl, ⟨rfl, rfl, rfl, rfl, w1, _, c3, k + 1, out, v, g, { r with many := r.many + 1 }, rfl, rfl, rfl, rfl, hb1, hsE, own_drewN (own_set hown (fun b hb => HN.out b hb) _) _,
            below_drewN (hb.setCell (p := ⟨g, 2, none⟩) hBg _) _, hlt, by omega, hBg, ?_, HN.out, by simp; omega, by simp; omega, ?_⟩, by simp [intOf]; omega⟩
          · exact blk_set HG.out 2 _
          · rw [← HR.out, run_go (r := { r with many := r.many + 1 }) hlt hnd.symm hc]
        · have hnb := ibeq_no hnd
          have hno : ¬ goesOn nodes (out ++ [{ r with many := r.many + 1 }]) E[k + 1] := not_goes_last (fun hh => hnd hh.1.symm)
          go_wp2_with fail
          go_quiet ((go_at_call 31; exact Calls.quiet_of_same (node_any nodes A c1 _ _ _ hn1 hn2 hsN)))
          go_wp2_with (at_builtin; refine wpList_append1 (.tmp 66) (.tmp 68) 36 48 _ 3 24 rfl rfl Try.underlying36 infoRn rfl (by decide) w1.heap.size _ _ _ _ _ _ _ _ (own_drewN (own_set hown (fun b hb => HN.out b hb) _) _) rfl rfl ?cg rfl ?d1 ?d2 ?d3 ?d4 ?ck; case' ck => intro v' w2 hown1 hb2 _)
          case cg => simp
          case d1 => simp [Value.oneCell']
          case d2 => simp only [maxLen]; omega
          case d3 => omega
          case d4 => have := hb.size; simp; omega
          have HO := own_rn (r := { r with many := r.many + 1 }) hown1
          clear hown1
          go_wp2_with fail
          go_step3
          exact Or.inl ⟨rfl, ⟨rfl, rfl, rfl, rfl, w1, _, c3, k + 1, out ++ [{ r with many := r.many + 1 }], v', rfl, rfl, rfl, hb1, hsE, HO, (below_drewN (hb.setCell (p := ⟨g, 2, none⟩) hBg _) _).trans hb2, (by omega), by simp; omega, HR.out, fun _ => hno⟩, by simp [intOf]; omega⟩
      · have hcb := ibeq_no hc
        have hno : ¬ goesOn nodes (out ++ [{ r with many := r.many + 1 }]) E[k + 1] := not_goes_last (fun hh => hc hh.2)
        go_wp2_with fail
        go_quiet (fail)
        go_wp2_with (at_builtin; refine wpList_append1 (.tmp 66) (.tmp 68) 36 48 _ 3 24 rfl rfl Try.underlying36 infoRn rfl (by decide) w1.heap.size _ _ _ _ _ _ _ _ (own_drewN (own_set hown (fun b hb => HN.out b hb) _) _) rfl rfl ?cgx rfl ?d1x ?d2x ?d3x ?d4x ?ckx; case' ckx => intro v' w2 hown1 hb2 _)
        case cgx => simp
        case d1x => simp [Value.oneCell']
        case d2x => simp only [maxLen]; omega
        case d3x => omega
        case d4x => have := hb.size; simp; omega
        have HO := own_rn (r := { r with many := r.many + 1 }) hown1
        clear hown1
        go_wp2_with fail
        go_step3
        exact Or.inl ⟨rfl, ⟨rfl, rfl, rfl, rfl, w1, _, c3, k + 1, out ++ [{ r with many := r.many + 1 }], v', rfl, rfl, rfl, hb1, hsE, HO, (below_drewN (hb.setCell (p := ⟨g, 2, none⟩) hBg _) _).trans hb2, (by omega), by simp; omega, HR.out, fun _ => hno⟩, by simp [intOf]; omega⟩
    · have hE' : k + 1 = E.length := by omega
      have i1 : ¬ (k : Int) + 1 < (E.length : Int) := by omega
      have i2 : decide ((k : Int) + 1 < (E.length : Int)) = false := by simpa using i1
      have n0 : (w'.setCell ⟨g, 2, none⟩ (.int .i64 (r.many + 1))).cell? ⟨g, 0, none⟩ = some (.int .i64 r.node) := (World.cell?_setCell_other _ _ _ _ (by simp)).trans k0
      have n1 : (w'.setCell ⟨g, 2, none⟩ (.int .i64 (r.many + 1))).cell? ⟨g, 1, none⟩ = some (.int .i64 r.frm) := (World.cell?_setCell_other _ _ _ _ (by simp)).trans k1
      have n2 : (w'.setCell ⟨g, 2, none⟩ (.int .i64 (r.many + 1))).cell? ⟨g, 2, none⟩ = some (.int .i64 (r.many + 1)) := World.cell?_setCell_same _ _ _ k2
      have HE := Lib.hid hE'
      clear hE'
      go_wp2_with fail
      go_quiet (fail)
      go_wp2_with (at_builtin; refine wpList_append1 (.tmp 66) (.tmp 68) 36 48 _ 3 24 rfl rfl Try.underlying36 infoRn rfl (by decide) w1.heap.size _ _ _ _ _ _ _ _ (own_drewN (own_set hown (fun b hb => HN.out b hb) _) _) rfl rfl ?cgy rfl ?d1y ?d2y ?d3y ?d4y ?cky; case' cky => intro v' w2 hown1 hb2 _)
      case cgy => simp
      case d1y => simp [Value.oneCell']
      case d2y => simp only [maxLen]; omega
      case d3y => omega
      case d4y => have := hb.size; simp; omega
      have HO := own_rn (r := { r with many := r.many + 1 }) hown1
      clear hown1
      go_wp2_with fail
      go_step3
      exact Or.inl ⟨rfl, ⟨rfl, rfl, rfl, rfl, w1, _, c3, k + 1, out ++ [{ r with many := r.many + 1 }], v', rfl, rfl, rfl, hb1, hsE, HO, (below_drewN (hb.setCell (p := ⟨g, 2, none⟩) hBg _) _).trans hb2, (by omega), by simp; omega, HR.out, fun h => absurd h (by have := HE.out; omega)⟩, by simp [intOf]; omega⟩
  · rintro a' w' ⟨hsz, hdf, s0, s1, w1, A2, c3, k, out, v, s6, s7, s8, hb1, hsE, hown, hb, hk, hol, hrun, hno⟩ hmore
    obtain ⟨u, rfl, hu⟩ := frame70 hsz hdf
    rw [hu] at s0 s1 s6 s7 s8
    simp only [s0, s1, s6, s7, s8] at hmore ⊢
    clear hsz hdf s0 s1 s6 s7 s8 hu
    have HM := Lib.hid hmore
    clear hmore
    have HR := Lib.hid hrun
    clear hrun
    by_cases hlt : k < E.length
    · have HN := Lib.hid (hno hlt)
      clear hno
      obtain ⟨b, off, rfl, hbb, hcell⟩ := Sl_at (k := 4) (fun _ => rfl) (by omega) (hsE.below hb) (by omega)
      have h1 := hcell k hlt 1 (by omega)
      have h3 := hcell k hlt 3 (by omega)
      simp only [decEv, List.getElem?_cons_zero, List.getElem?_cons_succ, Nat.add_zero, ← Nat.add_assoc] at h1 h3
      have hsN : Sl w' w.heap.size A (nodes.flatMap decI) := (hs.below hb1).below (hb.mono hb1.size)
      have i0 : ((k : Int) == (E.length : Int)) = false := nbeq_no (by omega)
      clear hcell
      by_cases hc : E[k].count = 1
      · have hcb := ibne_no hc
        have HC := Lib.hid hc
        clear hc
        go_wp2_with (go_at_call 31; refine (node_any nodes A c1 _ _ _ hn1 hn2 hsN).mono ?_; rintro e wx ⟨rfl, hwx⟩; obtain rfl := hwx.symm)
        go_step3
        rename_i hK
        refine hK _ _ ?_
        refine HM.out _ _ ?_ (by simp [intOf])
        refine ⟨rfl, rfl, rfl, rfl, w1, _, c3, k, out, v, w'.heap.size, ⟨nodeOf nodes E[k].thread, k, 0⟩, rfl, rfl, rfl, rfl, hb1, hsE, hown.alloc _, hb.alloc hb.size _, hlt, hol, hb.size, heap_alloc_new _ _, ?_, Int.le_refl _, by simp, ?_⟩
        · intro b hb
          have := (hown.lt b hb).2
          omega
        · rw [← HR.out, run_new hlt HN.out HC.out]
          rfl
      · have hcb := ibne hc
        have HC := Lib.hid hc
        clear hc
        go_wp2_with fail
        simp only [Exit.jump2]
        go_ret2
        refine ⟨v, ?_, ?_, hb1.trans (hb.mono hb1.size)⟩
        · rw [← HR.out, run_no hlt HN.out HC.out]; rfl
        · rw [← HR.out, run_no hlt HN.out HC.out]; exact own_base hown hb1.size
    · have i0 : ((k : Int) == (E.length : Int)) = true := nbeq (by omega)
      go_wp2_with fail
      simp only [Exit.jump2]
      go_ret2
      refine ⟨v, ?_, ?_, hb1.trans (hb.mono hb1.size)⟩
      · rw [← HR.out, run_end (by omega)]; rfl
      · rw [← HR.out, run_end (by omega)]; exact own_base hown hb1.size
  · intro hnext
    have HX := Lib.hid hnext
    clear hnext
    go_wp2_with (go_at_call 61; refine (entries_any l C c2 _ hm ht).mono ?_; rintro e w1 ⟨v2, rfl, hown, hb⟩)
    go_step3
    rename_i hK
    rw [hE.out] at hown
    obtain ⟨A2, c3, rfl, _, _, hsl⟩ := own_slice hown
    refine hK _ _ ?_
    refine HX.out _ _ ?_
    exact ⟨rfl, rfl, rfl, rfl, w1, A2, c3, 0, [], .slice none 0 0, rfl, rfl, rfl, hb, hsl, World.ownsRow_nil _ _ _ _, Below.refl _ _, Nat.zero_le _, Nat.le_refl _, htar.out, fun _ => not_goes_nil⟩

theorem of_any (nodes : List Int) (l : List Ev) (A C : Option Addr) (c1 c2 : Nat) (w : World) (hn1 : nodes.length ≤ c1) (hn2 : c1 ≤ maxLen) (hm : l.length ≤ 65536)
    (hs : Sl w w.heap.size A (nodes.flatMap decI)) (ht : Sl w w.heap.size C (l.flatMap decEv)) :
    Calls Try.prog 26 #[.slice A nodes.length c1, .slice C l.length c2] w fun e w' => ∃ v, e = .returned (.tuple #[v, .bool (ofAll nodes l).2]) ∧
      w'.ownsRow w.heap.size 48 3 v (ofAll nodes l).1.length ((ofAll nodes l).1.flatMap decRn) ∧ Below w.heap.size w w' :=
  of_any0 nodes l _ _ A C c1 c2 w hn1 hn2 hm rfl (Nat.le_trans (List.length_filter_le _ _) hm) rfl hs ht
end Go.Proofs.Ytmldkfmebplblaa.Ten
