/- Walks of package tenure and its reference: entries. -/
import Derived.Test.YtmldkfmebplblaaTen2
namespace Go.Proofs.Ytmldkfmebplblaa.Ten
open Go.RowKit

theorem infoEv : (Try.prog.info? 46).map (fun i => (i.zero, i.size, i.bytes)) = some (some (.agg #[.int .i64 0, .int .i64 0, .bool false, .int .i64 0]), 4, 32) := by kernel_rfl
theorem infoRn : (Try.prog.info? 48).map (fun i => (i.zero, i.size, i.bytes)) = some (some (.agg #[.int .i64 0, .int .i64 0, .int .i64 0]), 3, 24) := by kernel_rfl

def isEnter (e : Ev) : Bool := e.kind == 2
def entries (l : List Ev) : List Ev := l.filter isEnter
theorem entries_snoc (l : List Ev) (k : Nat) (h : k < l.length) : entries (l.take (k + 1)) = entries (l.take k) ++ (if isEnter l[k] then [l[k]] else []) := by
  unfold entries
  rw [List.take_succ_eq_append_getElem h, List.filter_append]
  cases hh : isEnter l[k] <;> simp [hh]
theorem entries_le (l : List Ev) (k : Nat) : (entries (l.take k)).length ≤ k := Nat.le_trans (List.length_filter_le _ _) (List.length_take_le _ _)

set_option maxHeartbeats 1000000 in
theorem entries_any (l : List Ev) (A : Option Addr) (cap : Nat) (w : World) (hm : l.length ≤ 65536) (hs : Sl w w.heap.size A (l.flatMap decEv)) :
    Calls Try.prog 61 #[.slice A l.length cap] w fun e w' => ∃ v, e = .returned v ∧ w'.ownsRow w.heap.size 46 4 v (entries l).length ((entries l).flatMap decEv) ∧ Below w.heap.size w w' := by
  obtain ⟨i0, hi0, hz0, hz1, hz2⟩ := info_parts infoEv
  go_enter Try.func61, Try.ntmps61
  go_wp2
  go_loopw [3, 8] (fun v i wr => ∃ k : Nat, k ≤ l.length ∧ i = .int .i64 k ∧ wr.ownsRow w.heap.size 46 4 v (entries (l.take k)).length ((entries (l.take k)).flatMap decEv) ∧ Below w.heap.size w wr) (fun _ i _ => l.length - (intOf i).toNat)
  case atStart => exact ⟨0, by omega, rfl, World.ownsRow_nil _ _ _ _, Below.refl _ _⟩
  case round =>
    obtain ⟨k, hk, rfl, hown, hb⟩ := hrel
    by_cases hlt : k < l.length
    · have hf := Lib.hid (entries_snoc l k hlt)
      have hle := entries_le l k
      obtain ⟨b, off, rfl, hbb, hcell⟩ := Sl_at (k := 4) (fun _ => rfl) (by omega) (hs.below hb) (by omega)
      have h0 := hcell k hlt 0 (by omega)
      have h1 := hcell k hlt 1 (by omega)
      have h2 := hcell k hlt 2 (by omega)
      have h3 := hcell k hlt 3 (by omega)
      simp only [decEv, List.getElem?_cons_zero, List.getElem?_cons_succ, Nat.add_zero, ← Nat.add_assoc] at h0 h1 h2 h3
      clear hcell
      generalize l[k] = r at h0 h1 h2 h3 hf
      generalize entries (l.take k) = es at hf hown hle
      cases hent : isEnter r
      · have hq : (r.kind == 2) = false := hent
        go_wp2
        go_roundw
        case rel => exact ⟨k + 1, by omega, by go_num, by rw [hf.out, hent]; simpa using hown.alloc _, hb.alloc hb.size _⟩
        case measure => simp [intOf]; omega
      · have hq : (r.kind == 2) = true := hent
        go_wp2_with (at_builtin; refine wpList_append1 (.tmp 15) (.tmp 17) 35 46 _ 4 32 rfl rfl Try.underlying35 infoEv rfl (by decide) w.heap.size _ _ _ _ _ _ _ _ (hown.alloc _) rfl rfl ?cg rfl ?c1 ?c2 ?c3 ?c4 ?ck; case' ck => intro v' w1 hown1 hb1 _)
        case cg => simp
        case c1 => simp [Value.oneCell']
        case c2 => simp only [maxLen]; omega
        case c3 => omega
        case c4 => have := hb.size; simp; omega
        go_roundw
        case rel => exact ⟨k + 1, by omega, by go_num, by rw [hf.out, hent]; simpa [decEv] using hown1, (hb.alloc hb.size _).trans hb1⟩
        case measure => simp [intOf]; omega
    · go_wp2
      go_ret
      rw [List.take_of_length_le (by omega)] at hown
      exact ⟨_, rfl, hown, hb⟩
end Go.Proofs.Ytmldkfmebplblaa.Ten
