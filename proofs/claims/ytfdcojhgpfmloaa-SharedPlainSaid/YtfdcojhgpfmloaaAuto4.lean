/- Walks of the reference of layer 10: State, Holder. -/
import Derived.Test.YtfdcojhgpfmloaaAuto3
namespace Go.Proofs.Ytfdcojhgpfmloaa.Aut
open Go.RowKit

structure Ev where
  kind : Int
  thread : Int
  read : Bool
  count : Int
  deriving DecidableEq
def decE (e : Ev) : List Value := [.int .i64 e.kind, .int .i64 e.thread, .bool e.read, .int .i64 e.count]
instance : Inhabited Ev := ⟨⟨0, 0, false, 0⟩⟩

def stepTo (t : Int) (a : Nat) (e : Ev) : Nat :=
  if e.thread = t then (if e.kind = 1 then 1 else if e.kind = 2 then 2 else if e.kind = 3 then 3 else if e.kind = 4 then 0 else a) else a
def rstate (l : List Ev) (t : Int) : Nat := l.foldl (stepTo t) 0
theorem rstate_take (l : List Ev) (t : Int) (k : Nat) (h : k < l.length) : rstate (l.take (k + 1)) t = stepTo t (rstate (l.take k) t) l[k] := by
  unfold rstate
  rw [List.take_succ_eq_append_getElem h, List.foldl_append]
  rfl

theorem rstate_any (l : List Ev) (A : Option Addr) (cap : Nat) (t : Int) (B : Nat) (w : World) (hm : l.length ≤ 9223372036854775807) (hs : Sl w B A (l.flatMap decE)) :
    Calls Try.prog 23 #[.slice A l.length cap, .int .i64 t] w fun e w' => e = .returned (.int .i64 (rstate l t)) ∧ w' = w := by
  go_enter Try.func23, Try.ntmps23
  go_wp2
  go_loop [5, 6] (fun n i => ∃ k : Nat, k ≤ l.length ∧ i = .int .i64 k ∧ n = .int .i64 (rstate (l.take k) t)) (fun _ i => l.length - (intOf i).toNat)
  case atStart => exact ⟨0, by omega, rfl, rfl⟩
  case round =>
    obtain ⟨k, hk, rfl, rfl⟩ := hrel
    by_cases hlt : k < l.length
    · obtain ⟨b, off, rfl, hbb, hcell⟩ := Sl_at (k := 4) (fun _ => rfl) (by omega) hs (by omega)
      have h0 := hcell k hlt 0 (by omega)
      have h1 := hcell k hlt 1 (by omega)
      simp only [decE, List.getElem?_cons_zero, List.getElem?_cons_succ, Nat.add_zero, ← Nat.add_assoc] at h0 h1
      have hst := Lib.hid (rstate_take l t k hlt)
      clear hcell
      generalize l[k] = x at h0 h1 hst
      obtain ⟨kd, th, rd, ct⟩ := x
      generalize rstate (l.take k) t = q at hst ⊢
      by_cases hx : th = t
      · have e1 := ibne_no hx
        have HX := Lib.hid hx
        clear hx
        by_cases k1 : kd = 1
        · have HS := Lib.hid (show rstate (l.take (k + 1)) t = 1 by rw [hst.out]; simp [stepTo, HX.out, k1])
          subst k1
          go_wp2
          go_round
          case rel => exact ⟨k + 1, by omega, by go_num, by rw [HS.out]; rfl⟩
          case measure => simp [intOf]; omega
        · by_cases k2 : kd = 2
          · have HS := Lib.hid (show rstate (l.take (k + 1)) t = 2 by rw [hst.out]; simp [stepTo, HX.out, k2])
            subst k2
            go_wp2
            go_round
            case rel => exact ⟨k + 1, by omega, by go_num, by rw [HS.out]; rfl⟩
            case measure => simp [intOf]; omega
          · by_cases k3 : kd = 3
            · have HS := Lib.hid (show rstate (l.take (k + 1)) t = 3 by rw [hst.out]; simp [stepTo, HX.out, k3])
              subst k3
              go_wp2
              go_round
              case rel => exact ⟨k + 1, by omega, by go_num, by rw [HS.out]; rfl⟩
              case measure => simp [intOf]; omega
            · by_cases k4 : kd = 4
              · have HS := Lib.hid (show rstate (l.take (k + 1)) t = 0 by rw [hst.out]; simp [stepTo, HX.out, k4])
                subst k4
                go_wp2
                go_round
                case rel => exact ⟨k + 1, by omega, by go_num, by rw [HS.out]; rfl⟩
                case measure => simp [intOf]; omega
              · have HS := Lib.hid (show rstate (l.take (k + 1)) t = q by rw [hst.out]; simp [stepTo, k1, k2, k3, k4])
                have f1 := ibeq_no k1
                have f2 := ibeq_no k2
                have f3 := ibeq_no k3
                have f4 := ibeq_no k4
                clear k1 k2 k3 k4
                go_wp2
                go_round
                case rel => exact ⟨k + 1, by omega, by go_num, by rw [HS.out]⟩
                case measure => simp [intOf]; omega
      · have e1 := ibne hx
        have HS := Lib.hid (show rstate (l.take (k + 1)) t = q by rw [hst.out]; simp [stepTo, hx])
        clear hx
        go_wp2
        go_round
        case rel => exact ⟨k + 1, by omega, by go_num, by rw [HS.out]⟩
        case measure => simp [intOf]; omega
    · have he := Lib.hid (show rstate l t = rstate (l.take k) t by rw [List.take_of_length_le (by omega)])
      go_wp2
      go_ret
      exact ⟨by rw [he.out]; rfl, rfl⟩
end Go.Proofs.Ytfdcojhgpfmloaa.Aut
