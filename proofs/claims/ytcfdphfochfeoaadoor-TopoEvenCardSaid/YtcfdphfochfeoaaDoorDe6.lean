/- Walks of numbers' texts: List and Numbers of the program. -/
import Derived.Test.YtcfdphfochfeoaaDoorDe5
import Derived.Test.YtcfdphfochfeoaaDoorLi4
namespace Go.Proofs.YtcfdphfochfeoaaDoor.De
open Go.RowKit Go.Proofs.YtcfdphfochfeoaaDoor.Li Go.Proofs.YtcfdphfochfeoaaDoor.Ara

theorem join_jn (ls : List (List UInt8)) (h : ls ≠ []) : Lib.join ls [44] = jn ls := by
  cases ls with
  | nil => exact absurd rfl h
  | cons x r =>
    rw [Lib.join_cons]
    clear h
    induction r generalizing x with
    | nil => simp [Lib.joinTail, jn]
    | cons y t ih =>
      rw [jn_cons _ _ (by simp), ← ih y]
      simp [Lib.joinTail]
theorem join_any (ls : List (List UInt8)) (A : Option Addr) (c : Nat) (w : World) (hc : ls.length ≤ c) (hm : ls.length ≤ 4096) (hz : (jn ls).length ≤ 65536) (hs : Sl w w.heap.size A (ls.map vS)) :
    Calls Tryd.prog 90 #[.slice A ls.length c, .string ⟨#[44]⟩] w fun e w' => e = .returned (vS (jn ls)) ∧ Below w.heap.size w w' := by
  by_cases h0 : ls = []
  · subst h0
    refine (Tryd.strings_Join_none A c ⟨#[44]⟩ w).mono ?_
    rintro e w' ⟨rfl, rfl⟩
    exact ⟨rfl, Below.refl _ _⟩
  · have hpos : 0 < ls.length := List.length_pos_iff.2 h0
    obtain ⟨b, off, rfl, hb, hcell⟩ := sl_str hs hpos
    have hj : Lib.join ((ls.map B).map (·.data.toList)) (⟨#[44]⟩ : ByteArray).data.toList = jn ls := by
      rw [List.map_map, show ((fun x : ByteArray => x.data.toList) ∘ B) = id from rfl, List.map_id]
      exact join_jn ls h0
    have := Tryd.strings_Join b off c (ls.map B) ⟨#[44]⟩ w (fun j x hx => by
      obtain ⟨h1, h2⟩ := List.getElem?_eq_some_iff.1 hx
      rw [List.length_map] at h1
      rw [hcell j h1, ← h2, List.getElem_map]) hb (by rw [List.length_map]; omega) (by rw [List.length_map]; exact hc) (by rw [hj]; omega)
    rw [hj, List.length_map] at this
    exact this
theorem frame20 {a : Act} (h : a.tmps.size = 20) (hd : a.defers = []) : ∃ u : Nat → Value, a = { tmps := #[u 0, u 1, u 2, u 3, u 4, u 5, u 6, u 7, u 8, u 9, u 10, u 11, u 12, u 13, u 14, u 15, u 16, u 17, u 18, u 19], defers := [] } ∧ ∀ n, a.tmps.getD n undef = u n := by
  refine ⟨fun n => a.tmps.getD n undef, ?_, fun _ => rfl⟩
  have h1 := arr_lit a.tmps h
  cases a with
  | mk t d =>
    simp only at hd h1
    subst hd
    congr 1
def LsJ (ns : List Int) (w0 : World) (A : Option Addr) (cap : Nat) (a : Act) (w' : World) : Prop :=
  a.tmps.size = 20 ∧ a.defers = [] ∧ a.tmps.getD 6 undef = .slice A ns.length cap ∧ a.tmps.getD 7 undef = .int .i64 (ns.length : Int) ∧ ∃ (k : Nat) (v : Value), a.tmps.getD 3 undef = v ∧ a.tmps.getD 8 undef = .int .i64 (k : Int) ∧ k ≤ ns.length ∧
    w'.ownsRow w0.heap.size 9 1 v k (((ns.take k).map txt).map vS) ∧ Below w0.heap.size w0 w'
set_option maxRecDepth 100000 in
set_option maxHeartbeats 2000000 in
theorem list_any (ns : List Int) (A : Option Addr) (cap : Nat) (w : World) (hm : ns.length ≤ 1000) (hb : ∀ n ∈ ns, isI64 n) (hs : Sl w w.heap.size A (ns.flatMap decI)) :
    Calls Tryd.prog 37 #[.slice A ns.length cap] w fun e w' => e = .returned (vS (lst ns)) ∧ Below w.heap.size w w' := by
  have HZ := Lib.hid (lst_len ns hb ns.length)
  go_enter Tryd.func37, Tryd.ntmps37
  go_wp2_with fail
  refine wp_loop (LsJ ns w A cap) (fun a' _ => ns.length - (intOf (a'.tmps.getD 8 undef)).toNat) ?_ ?_
  · exact ⟨rfl, rfl, rfl, rfl, 0, _, rfl, rfl, Nat.zero_le _, World.ownsRow_nil _ _ _ _, Below.refl _ _⟩
  · rintro a' w' ⟨hsz, hdf, s6, s7, k, v, s3, s8, hk, hown, hbel⟩
    obtain ⟨u, rfl, hu⟩ := frame20 hsz hdf
    rw [hu] at s3 s6 s7 s8
    simp only [s3, s6, s7, s8]
    clear hsz hdf s3 s6 s7 s8 hu
    by_cases hlt : k < ns.length
    · obtain ⟨b, off, rfl, hbb, hcell⟩ := sl_int (hs.below hbel) hlt
      have h0 := hcell k hlt
      have HT := Lib.hid (fun W => text_any ns[k] (hb ns[k] (List.getElem_mem hlt)) W)
      have HK := Lib.hid (List.take_succ_eq_append_getElem hlt)
      have i1 : (k : Int) < (ns.length : Int) := by omega
      have HO := Lib.hid hown
      have HB := Lib.hid hbel
      clear hcell hown hbel
      generalize ns[k] = x at *
      go_wp2_with fail
      refine (HT.out _).mono ?_
      rintro e w1 ⟨rfl, hb1⟩
      have hown1 := own_below HO.out (Nat.le_refl _) hb1
      have hB1 := nx HB.out hb1
      have hwq := hB1.size
      have HB1 := Lib.hid hB1
      clear hb1 hB1
      go_wp2_with (at_builtin; refine wpList_append1 (.tmp 12) (.tmp 15) 22 9 _ 1 16 rfl rfl Tryd.underlying22 infoS rfl (by decide) w.heap.size _ _ _ _ _ _ _ _ hown1 rfl rfl ?cge rfl ?d1e ?d2e ?d3e ?d4e ?cke; case' cke => intro v' w2 hown2 hb2 _)
      case cge => first | rfl | simp
      case d1e => simp [Value.oneCell']
      case d2e => simp only [maxLen]; omega
      case d3e => omega
      case d4e => omega
      go_wp2_with fail
      go_roundw
      case rel => exact ⟨rfl, rfl, rfl, rfl, k + 1, v', rfl, by go_num, by omega, by rw [HK.out]; simpa using hown2, HB1.out.trans hb2⟩
      case measure => simp [intOf]; omega
    · obtain rfl : k = ns.length := by omega
      rw [List.take_length] at hown
      obtain ⟨A2, c2, rfl, hc2, _, hs2⟩ := own_slice hown
      have hl : (ns.map txt).length = ns.length := List.length_map _
      have HJ := join_any (ns.map txt) A2 c2 w' (by rw [hl]; exact hc2) (by rw [hl]; omega) (by have := HZ.out; rw [List.take_length] at this; change (lst ns).length ≤ 65536; omega) hs2
      rw [hl] at HJ
      have HJ := Lib.hid HJ
      have HB := Lib.hid hbel
      clear hown hs2 hbel
      go_wp2_with fail
      refine HJ.out.mono ?_
      rintro e w1 ⟨rfl, hb1⟩
      have HB1 := Lib.hid (nx HB.out hb1)
      clear hb1
      go_wp2_with fail
      go_ret
      exact ⟨rfl, HB1.out⟩
end Go.Proofs.YtcfdphfochfeoaaDoor.De
