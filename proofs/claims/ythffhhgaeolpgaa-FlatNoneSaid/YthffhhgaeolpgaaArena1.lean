/- Package arena: the ops of sync/atomic on a word; the arena in memory. -/
import Derived.Test.YthffhhgaeolpgaaMake
import Derived.Laws.LoneSync
namespace Go.Proofs.Ythffhhgaeolpgaa.Ara
open Go.RowKit


section
variable {a : Addr} {x y v : Int} {W : World}
theorem at_load (hc : W.cell? a = some (.int .i64 x)) :
    (callFunc 76 #[.pointer (some a)]).run Try.prog W = .ok (.value (.int .i64 x)) W :=
  run_call_load Try.func76 (by kernel_rfl) (by kernel_rfl) (by kernel_rfl) .i64 (by kernel_rfl) hc
theorem at_store (hc : W.cell? a = some (.int .i64 x)) (hz : W.frozen? a = false) :
    (callFunc 87 #[.pointer (some a), .int .i64 y]).run Try.prog W = .ok (.value (.tuple #[])) (W.setCell a (.int .i64 y)) :=
  run_call_store Try.func87 (by kernel_rfl) (by kernel_rfl) (by kernel_rfl) (by kernel_rfl) hc hz
theorem at_add (hc : W.cell? a = some (.int .i64 x)) (hz : W.frozen? a = false) :
    (callFunc 91 #[.pointer (some a), .int .i64 y]).run Try.prog W = .ok (.value (.int .i64 (IntKind.i64.wrap (x + y)))) (W.setCell a (.int .i64 (IntKind.i64.wrap (x + y)))) :=
  run_call_add Try.func91 (by kernel_rfl) (by kernel_rfl) (by kernel_rfl) .i64 (by kernel_rfl) hc hz (by simp [go_sem])
theorem at_cas_hit (hc : W.cell? a = some (.int .i64 x)) (hz : W.frozen? a = false) :
    (callFunc 94 #[.pointer (some a), .int .i64 x, .int .i64 v]).run Try.prog W = .ok (.value (.bool true)) (W.setCell a (.int .i64 v)) :=
  run_call_cas_hit Try.func94 (by kernel_rfl) (by kernel_rfl) (by kernel_rfl) .i64 (by kernel_rfl) hc hz
theorem at_cas_miss (hc : W.cell? a = some (.int .i64 x)) (hz : W.frozen? a = false) (hne : x ≠ y) :
    (callFunc 94 #[.pointer (some a), .int .i64 y, .int .i64 v]).run Try.prog W = .ok (.value (.bool false)) W :=
  run_call_cas_miss Try.func94 (by kernel_rfl) (by kernel_rfl) (by kernel_rfl) .i64 (by kernel_rfl) hc hz hne
theorem at_swap (hc : W.cell? a = some (.int .i64 x)) (hz : W.frozen? a = false) :
    (callFunc 92 #[.pointer (some a), .int .i64 y]).run Try.prog W = .ok (.value (.int .i64 x)) (W.setCell a (.int .i64 y)) := by
  rw [run_callFunc_extern Try.func92 (by kernel_rfl) (by kernel_rfl) (by kernel_rfl) (e := Extern.Atomic.swapT (.int .i64)) (by kernel_rfl)]
  change (Sem.run Try.prog (do
    let a' ← asAddr (.pointer (some a))
    let old ← Extern.Atomic.read (.int .i64) a'
    store a' (.int .i64 y) .atomic
    pure old) W).andThen _ = _
  simp [Extern.Atomic.read, asAddr, hc, hz, run_store Try.prog W a (.int .i64 y) .atomic rfl, Result.andThen]
end
end Go.Proofs.Ythffhhgaeolpgaa.Ara
