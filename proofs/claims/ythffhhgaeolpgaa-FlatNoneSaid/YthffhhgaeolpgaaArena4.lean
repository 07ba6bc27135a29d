/- Package arena: New, Take, Ops, Last, Words. -/
import Derived.Test.YthffhhgaeolpgaaArena3
namespace Go.Proofs.Ythffhhgaeolpgaa.Ara
open Go.RowKit

theorem frame22 {a : Act} (h : a.tmps.size = 22) (hd : a.defers = []) : ∃ u : Nat → Value, a = { tmps := #[u 0, u 1, u 2, u 3, u 4, u 5, u 6, u 7, u 8, u 9, u 10, u 11, u 12, u 13, u 14, u 15, u 16, u 17, u 18, u 19, u 20, u 21], defers := [] } ∧ ∀ n, a.tmps.getD n undef = u n := by
  refine ⟨fun n => a.tmps.getD n undef, ?_, fun _ => rfl⟩
  have h1 := arr_lit a.tmps h
  cases a with
  | mk t d =>
    simp only at hd h1
    subst hd
    congr 1
theorem infoW : (Try.prog.info? 80).map (fun i => (i.zero, i.size, i.bytes)) = some (some (.agg #[.int .i64 0]), 1, 8) := by kernel_rfl
theorem infoI : (Try.prog.info? 3).map (fun i => (i.zero, i.size, i.bytes)) = some (some (.int .i64 0), 1, 8) := by kernel_rfl
def zerosW (n : Nat) : List Int := List.replicate n 0
theorem zeros_flat (n : Nat) : ((List.replicate n ((Value.agg #[.int .i64 0]).cells.toList)).flatten).toArray = ((zerosW n).map vI).toArray := by
  congr 1
  induction n with
  | zero => rfl
  | succ n ih => rw [List.replicate_succ, List.flatten_cons, ih, zerosW, zerosW, List.replicate_succ, List.map_cons]; rfl
theorem make_zeros (n : Nat) (h : n ≤ 65536) (W : World) : (Instr.makeSlice 65 (.int .i64 (n : Int)) (.int .i64 (n : Int))).run Try.prog W = .ok (.slice (some ⟨W.heap.size, 0, none⟩) n n) (W.alloc (.cells ((zerosW n).map vI).toArray 80)) := by
  rw [run_make_rows (P := Try.prog) 65 80 (.agg #[.int .i64 0]) 1 8 Try.underlying65 infoW rfl .i64 .i64 n (by omega) (by omega) W, zeros_flat]

/-- How many words there is room for. -/
def room (t : Int) : Nat := if t < 0 then 0 else if 4096 < t then 4096 else t.toNat
theorem room_le (t : Int) : room t ≤ 4096 := by unfold room; split; omega; split <;> omega
def Ar.fresh (m : Nat) : Ar := ⟨zerosW m, 0, 0, 0, 0, false⟩

theorem new_in (t : Int) (w : World) :
    Calls Try.prog 13 #[.int .i64 t] w fun e w' => e = .returned (.pointer (some ⟨w.heap.size + 1, 0, none⟩)) ∧ ArAt w' (w.heap.size + 1) w.heap.size (Ar.fresh (room t)) ∧ w'.heap.size = w.heap.size + 1 + 1 ∧ Below w.heap.size w w' := by
  have hfin : ∀ c, c ≤ 4096 → Hid (ArAt ((w.alloc (.cells ((zerosW c).map vI).toArray 80)).alloc (.cells #[.slice (some ⟨w.heap.size, 0, none⟩) c c, .int .i64 0, .int .i64 0, .int .i64 0, .int .i64 0, .bool false] 67)) (w.heap.size + 1) w.heap.size (Ar.fresh c) ∧
      ((w.alloc (.cells ((zerosW c).map vI).toArray 80)).alloc (.cells #[.slice (some ⟨w.heap.size, 0, none⟩) c c, .int .i64 0, .int .i64 0, .int .i64 0, .int .i64 0, .bool false] 67)).heap.size = w.heap.size + 1 + 1 ∧
      Below w.heap.size w ((w.alloc (.cells ((zerosW c).map vI).toArray 80)).alloc (.cells #[.slice (some ⟨w.heap.size, 0, none⟩) c c, .int .i64 0, .int .i64 0, .int .i64 0, .int .i64 0, .bool false] 67))) := fun c hc => by
    have hl : (zerosW c).length = c := by simp [zerosW]
    refine Lib.hid ⟨⟨Nat.zero_le _, by show (zerosW c).length ≤ 4096; rw [hl]; exact hc, some ⟨w.heap.size, 0, none⟩, c, ?_, .inr ⟨rfl, by omega, ?_⟩⟩, by simp, (below_new _ _).alloc (by simp) _⟩
    · show _ = some (Obj.cells #[.slice (some ⟨w.heap.size, 0, none⟩) (zerosW c).length c, .int .i64 0, .int .i64 0, .int .i64 0, .int .i64 0, .bool false] _ _)
      rw [hl]
      exact heap_alloc2_new _ _ _
    · exact heap_alloc2_old _ _ _
  by_cases h0 : t ≤ 0
  · rw [show room t = 0 by unfold room; by_cases h : t < 0; rw [if_pos h]; rw [if_neg h, if_neg (by omega)]; omega]
    have hf := hfin 0 (by omega)
    clear hfin
    have hmk : ∀ W, (Instr.makeSlice 65 (.int .i64 0) (.int .i64 0)).run Try.prog W = .ok (.slice (some ⟨W.heap.size, 0, none⟩) 0 0) (W.alloc (.cells ((zerosW 0).map vI).toArray 80)) := fun W => make_zeros 0 (by omega) W
    have hm2 : t ≤ 4096 := by omega
    by_cases h0 : t = 0
    all_goals
      go_enter Try.func13, Try.ntmps13
      go_wp2_with fail
      go_ret
      exact ⟨rfl, hf.out⟩
  · by_cases h1 : 4096 < t
    · rw [show room t = 4096 by unfold room; rw [if_neg (by omega), if_pos h1]]
      have hf := hfin 4096 (by omega)
      clear hfin
      have hmk : ∀ W, (Instr.makeSlice 65 (.int .i64 4096) (.int .i64 4096)).run Try.prog W = .ok (.slice (some ⟨W.heap.size, 0, none⟩) 4096 4096) (W.alloc (.cells ((zerosW 4096).map vI).toArray 80)) := fun W => make_zeros 4096 (by omega) W
      generalize hz : ((zerosW 4096).map vI).toArray = zz at hmk hf
      clear hz
      go_enter Try.func13, Try.ntmps13
      go_wp2_with fail
      go_ret
      exact ⟨rfl, hf.out⟩
    · obtain ⟨c, rfl⟩ := Int.eq_ofNat_of_zero_le (show 0 ≤ t by omega)
      rw [show room c = c by unfold room; rw [if_neg (by omega), if_neg h1]; omega]
      have hf := hfin c (by omega)
      clear hfin
      have hmk := fun W => make_zeros c (by omega) W
      have h1 : (c : Int) ≤ 4096 := by omega
      have h2 : (0 : Int) ≤ (c : Int) := by omega
      go_enter Try.func13, Try.ntmps13
      go_wp2_with fail
      go_ret
      exact ⟨rfl, hf.out⟩

/-- Take: the answer, and the arena then. -/
def Ar.take (σ : Ar) (n : Int) : (Int × Int) × Ar :=
  if n < 0 then ((0, 1), σ) else if (σ.ws.length : Int) - σ.t < n then ((0, 3), σ) else (((σ.t : Int) + 1, 0), { σ with t := σ.t + n.toNat })
theorem ArAt.taken {w : World} {g h : Nat} {σ : Ar} (k : ArAt w g h σ) (n : Nat) (hn : σ.t + n ≤ σ.ws.length) : ArAt (w.setCell ⟨g, 1, none⟩ (.int .i64 ((σ.t : Int) + n))) g h { σ with t := σ.t + n } := by
  obtain ⟨h1, h2, A, c, h3, h4⟩ := k
  refine ⟨hn, h2, A, c, ?_, ?_⟩
  · rw [blk_set h3]
    rfl
  · rcases h4 with h4 | ⟨a, b, c⟩
    · exact .inl h4
    · exact .inr ⟨a, b, blk_other c b _⟩
theorem take_any (g h : Nat) (σ : Ar) (w : World) (H : ArAt w g h σ) (n : Int) :
    Calls Try.prog 42 #[.pointer (some ⟨g, 0, none⟩), .int .i64 n] w fun e w' => e = .returned (.tuple #[.int .i64 (σ.take n).1.1, .int .i64 (σ.take n).1.2]) ∧ ArAt w' g h (σ.take n).2 ∧ Mod [g, h] w w' := by
  unfold Ar.take
  by_cases h0 : n < 0
  · rw [if_pos h0]
    go_enter Try.func42, Try.ntmps42
    go_wp2_with fail
    go_ret2
    exact ⟨rfl, H, Mod.refl _ _⟩
  rw [if_neg h0]
  obtain ⟨m, rfl⟩ := Int.eq_ofNat_of_zero_le (show 0 ≤ n by omega)
  obtain ⟨A, cc, g0, g1, _, _, _, _, gf⟩ := H.heads
  have f1 := gf 1
  have h11 := H.1
  have h22 := H.2.1
  have b0 : (σ.ws.length : Int) ≤ 4096 := by omega
  have b1 : (σ.t : Int) ≤ (σ.ws.length : Int) := by omega
  have HH := Lib.hid H
  clear gf H
  by_cases h1 : (σ.ws.length : Int) - σ.t < (m : Int)
  · rw [if_pos h1]
    go_enter Try.func42, Try.ntmps42
    go_wp2_with fail
    go_quiet (fail)
    go_wp2_with fail
    go_ret2
    exact ⟨rfl, HH.out.drewN _, (Mod.refl _ _).drewN _⟩
  · rw [if_neg h1]
    have HT := Lib.hid (HH.out.taken m (by omega))
    have b2 : (m : Int) ≤ 4096 := by omega
    go_enter Try.func42, Try.ntmps42
    go_wp2_with fail
    go_quiet (fail)
    go_wp2_with fail
    go_ret2
    exact ⟨rfl, HT.out, ((Mod.refl _ _).drewN _).setCell (by simp) _⟩
theorem take_nil (n : Int) (w : World) :
    Calls Try.prog 42 #[.pointer none, .int .i64 n] w fun e w' => e = .returned (.tuple #[.int .i64 (if n = 0 then 1 else 0), .int .i64 (if n < 0 then 1 else if n = 0 then 0 else 3)]) ∧ Below w.heap.size w w' := by
  by_cases h0 : n < 0
  · rw [if_neg (by omega), if_pos h0]
    go_enter Try.func42, Try.ntmps42
    go_wp2_with fail
    go_ret2
    exact ⟨rfl, Below.refl _ _⟩
  · by_cases h1 : n = 0
    · subst h1
      rw [if_pos rfl, if_neg (by omega), if_pos rfl]
      go_enter Try.func42, Try.ntmps42
      go_wp2_with fail
      go_ret2
      exact ⟨rfl, Below.refl _ _⟩
    · rw [if_neg h1, if_neg h0, if_neg h1]
      have e1 := ibeq_no h1
      clear h1
      go_enter Try.func42, Try.ntmps42
      go_wp2_with fail
      go_quiet (fail)
      go_wp2_with fail
      go_ret2
      exact ⟨rfl, below_drewN (Below.refl _ _) _⟩

theorem ops_any (g h : Nat) (σ : Ar) (w : World) (H : ArAt w g h σ) : Calls Try.prog 16 #[.pointer (some ⟨g, 0, none⟩)] w fun e w' => e = .returned (.int .i64 σ.ops) ∧ w' = w := by
  obtain ⟨A, cc, _, _, g2, _⟩ := H.heads
  clear H
  go_enter Try.func16, Try.ntmps16
  go_wp2_with fail
  go_ret
  exact ⟨rfl, rfl⟩
theorem ops_nil (w : World) : Calls Try.prog 16 #[.pointer none] w fun e w' => e = .returned (.int .i64 0) ∧ w' = w := by
  go_enter Try.func16, Try.ntmps16
  go_wp2_with fail
  go_ret
  exact ⟨rfl, rfl⟩
theorem last_any (g h : Nat) (σ : Ar) (w : World) (H : ArAt w g h σ) : Calls Try.prog 20 #[.pointer (some ⟨g, 0, none⟩)] w fun e w' => e = .returned (.agg #[.int .i64 σ.kind, .int .i64 σ.pos, .bool σ.wrote]) ∧ Below w.heap.size w w' := by
  obtain ⟨A, cc, _, _, _, g3, g4, g5, _⟩ := H.heads
  have hgl := H.lt
  clear H
  go_enter Try.func20, Try.ntmps20
  go_wp2_with fail
  exact bodyPost_ret (v := .agg #[.int .i64 σ.kind, .int .i64 σ.pos, .bool σ.wrote]) (by simp [results, Try.results20, go_sem]) rfl ⟨rfl, (Below.refl _ _).alloc (Nat.le_refl _) _⟩
theorem last_nil (w : World) : Calls Try.prog 20 #[.pointer none] w fun e w' => e = .returned (.agg #[.int .i64 0, .int .i64 0, .bool false]) ∧ Below w.heap.size w w' := by
  go_enter Try.func20, Try.ntmps20
  go_wp2_with fail
  exact bodyPost_ret (v := .agg #[.int .i64 0, .int .i64 0, .bool false]) (by simp [results, Try.results20, go_sem]) rfl ⟨rfl, (Below.refl _ _).alloc (Nat.le_refl _) _⟩
def WdJ (g : Nat) (σ : Ar) (w : World) (a : Act) (W : World) : Prop :=
  a.tmps.size = 22 ∧ a.defers = [] ∧ a.tmps.getD 0 undef = .pointer (some ⟨g, 0, none⟩) ∧ a.tmps.getD 6 undef = .int .i64 σ.t ∧
    ∃ (k : Nat) (v : Value), a.tmps.getD 7 undef = .int .i64 k ∧ a.tmps.getD 3 undef = v ∧ k ≤ σ.t ∧ W.ownsRow w.heap.size 3 1 v k ((σ.ws.take k).map vI) ∧ Below w.heap.size w W
set_option maxHeartbeats 1000000 in
set_option maxRecDepth 100000 in
theorem words_any (g h : Nat) (σ : Ar) (w : World) (H : ArAt w g h σ) : Calls Try.prog 17 #[.pointer (some ⟨g, 0, none⟩)] w fun e w' => ∃ v, e = .returned v ∧ w'.ownsRow w.heap.size 3 1 v σ.t ((σ.ws.take σ.t).map vI) ∧ Below w.heap.size w w' := by
  have HL := Lib.hid (len_any g h σ w H)
  have ht := H.1
  have hl := H.2.1
  have HH := Lib.hid H
  clear H
  go_enter Try.func17, Try.ntmps17
  go_wp2_with fail
  refine (HL.out).mono ?_
  rintro e wx ⟨rfl, hwx⟩
  obtain rfl := hwx.symm
  go_wp2_with fail
  refine wp_loop (WdJ g σ w) (fun a' _ => σ.t - (intOf (a'.tmps.getD 7 undef)).toNat) ?_ ?_
  · exact ⟨rfl, rfl, rfl, rfl, 0, _, rfl, rfl, Nat.zero_le _, (World.ownsRow_nil _ _ _ _ : w.ownsRow w.heap.size 3 1 (.slice none 0 0) 0 []), Below.refl _ _⟩
  · rintro a' W ⟨hsz, hdf, s0, s6, k, v, s7, s3, hk, hown, hb⟩
    obtain ⟨u, rfl, hu⟩ := frame22 hsz hdf
    rw [hu] at s0 s6 s7 s3
    simp only [s0, s6, s7, s3]
    clear hsz hdf s0 s6 s7 s3 hu
    by_cases hlt : k < σ.t
    · obtain ⟨c, g0, hc, fz, hne, hkl⟩ := (HH.out.step hb).word k hlt
      have hst := Lib.hid (show (σ.ws.take (k + 1)).map vI = (σ.ws.take k).map vI ++ [.int .i64 (σ.ws.getD k 0)] by
        rw [List.take_succ_eq_append_getElem hkl, List.map_append]
        simp [vI, hkl])
      have k1 : (k : Int) < (σ.ws.length : Int) := by omega
      generalize σ.ws.getD k 0 = x at *
      generalize (σ.ws.take k).map vI = xs at *
      clear hne fz hkl
      go_wp2_with fail
      refine (i_load h k x _ hc).mono ?_
      rintro e wx ⟨rfl, hwx⟩
      obtain rfl := hwx.symm
      go_wp2_with (at_builtin; refine wpList_append1 (.tmp 10) (.tmp 18) 36 3 _ 1 8 rfl rfl Try.underlying36 infoI rfl (by decide) w.heap.size _ _ _ _ _ _ _ _ hown rfl rfl ?cg rfl ?d1 ?d2 ?d3 ?d4 ?ck; case' ck => intro v' W3 hown3 hb3 _)
      case cg => first | rfl | simp
      case d1 => simp [Value.oneCell']
      case d2 => simp only [maxLen]; omega
      case d3 => omega
      case d4 => exact hb.size
      exact ⟨⟨rfl, rfl, rfl, rfl, k + 1, v', rfl, rfl, hlt, by rw [hst.out]; simpa using hown3, hb.trans hb3⟩, by simp [intOf]; omega⟩
    · obtain rfl : k = σ.t := by omega
      go_wp2_with fail
      go_ret
      exact ⟨_, rfl, hown, hb⟩
end Go.Proofs.Ythffhhgaeolpgaa.Ara
