/- The reference of layer 11: Do. -/
import Derived.Test.YtfdcojhgpfmloaaShR
namespace Go.Proofs.Ytfdcojhgpfmloaa.Sha
open Go.RowKit


section
variable (T : Int) (l : List Ev) (A : Option Addr) (cap : Nat) (w : World)
theorem rdo_kind (kd th ct : Int) (rd : Bool) (h : kd < 0 ∨ 5 < kd) :
    Calls Try.prog 17 #[.int .i64 T, .slice A l.length cap, .agg #[.int .i64 kd, .int .i64 th, .bool rd, .int .i64 ct]] w fun r w' => r = .returned (.int .i64 7) ∧ Below w.heap.size w w' := by
  by_cases h1 : kd < 0
  · go_enter Try.func17, Try.ntmps17
    go_wp2_with fail
    go_ret
    exact ⟨rfl, below_new _ _⟩
  · have h2 : 5 < kd := by omega
    go_enter Try.func17, Try.ntmps17
    go_wp2_with fail
    go_ret
    exact ⟨rfl, below_new _ _⟩
theorem rdo_free (kd th ct : Int) (rd : Bool) (h : kd = 0 ∨ kd = 5) :
    Calls Try.prog 17 #[.int .i64 T, .slice A l.length cap, .agg #[.int .i64 kd, .int .i64 th, .bool rd, .int .i64 ct]] w fun r w' => r = .returned (.int .i64 0) ∧ Below w.heap.size w w' := by
  rcases h with rfl | rfl
  all_goals
    go_enter Try.func17, Try.ntmps17
    go_wp2_with fail
    go_ret
    exact ⟨rfl, below_new _ _⟩
theorem rdo_none (kd th ct : Int) (rd : Bool) (hk : 1 ≤ kd ∧ kd ≤ 4) (ht : th < 0 ∨ (som T : Int) ≤ th) :
    Calls Try.prog 17 #[.int .i64 T, .slice A l.length cap, .agg #[.int .i64 kd, .int .i64 th, .bool rd, .int .i64 ct]] w fun r w' => r = .returned (.int .i64 4) ∧ Below w.heap.size w w' := by
  have e0 := ibeq_no (show ¬ kd = 0 by omega)
  have e5 := ibeq_no (show ¬ kd = 5 by omega)
  have l0 : ¬ kd < 0 := by omega
  have l5 : ¬ 5 < kd := by omega
  by_cases h1 : th < 0
  · go_enter Try.func17, Try.ntmps17
    go_wp2_with fail
    go_quiet (fail)
    go_wp2_with fail
    go_ret
    exact ⟨rfl, below_drewN (below_new _ _) _⟩
  · have h2 : (som T : Int) ≤ th := by omega
    have hd : decide (th < 0) = false := by simpa using h1
    go_enter Try.func17, Try.ntmps17
    go_wp2_with fail
    go_quiet ((go_at_call 69; exact Calls.quiet_of_same (some_any T _)))
    go_wp2_with fail
    go_ret
    exact ⟨rfl, below_drewN (below_new _ _) _⟩

variable (hm : l.length ≤ 60) (hs : Sl w w.heap.size A (l.flatMap decE))
include hm hs
theorem rdo_ask (th ct : Int) (rd : Bool) (h1 : ¬ th < 0) (h2 : ¬ (som T : Int) ≤ th) :
    Calls Try.prog 17 #[.int .i64 T, .slice A l.length cap, .agg #[.int .i64 1, .int .i64 th, .bool rd, .int .i64 ct]] w fun r w' => r = .returned (.int .i64 (if rstate l th ≠ 0 then 5 else 0 : Nat)) ∧ Below w.heap.size w w' := by
  have hst : ∀ n, _ := fun n => rstate_any l A cap th _ ((w.alloc (.cells #[.int .i64 1, .int .i64 th, .bool rd, .int .i64 ct] 29)).drewN n) (by omega) ((hs.push _).drews n)
  have hrr : ∀ n, _ := fun n => reads_any l A cap th _ ((w.alloc (.cells #[.int .i64 1, .int .i64 th, .bool rd, .int .i64 ct] 29)).drewN n) (by omega) ((hs.push _).drews n)
  have HS := Lib.hid hst
  have HR := Lib.hid hrr
  clear hst hrr
  have hd : decide (th < 0) = false := by simpa using h1
  clear hs HR
  generalize rstate l th = q at HS ⊢
  by_cases hq : q = 0
  · subst hq
    rw [if_neg (by decide)]
    go_enter Try.func17, Try.ntmps17
    go_wp2_with fail
    go_quiet ((go_at_call 69; exact Calls.quiet_of_same (some_any T _)))
    go_wp2_with fail
    refine (HS.out _).mono ?_
    rintro e wx ⟨rfl, hwx⟩
    obtain rfl := hwx.symm
    go_wp2_with fail
    go_ret
    exact ⟨rfl, below_drewN (below_new _ _) _⟩
  · have e1 := ibne (show ¬ (q : Int) = 0 by omega)
    rw [if_pos hq]
    go_enter Try.func17, Try.ntmps17
    go_wp2_with fail
    go_quiet ((go_at_call 69; exact Calls.quiet_of_same (some_any T _)))
    go_wp2_with fail
    refine (HS.out _).mono ?_
    rintro e wx ⟨rfl, hwx⟩
    obtain rfl := hwx.symm
    go_wp2_with fail
    go_ret
    exact ⟨rfl, below_drewN (below_new _ _) _⟩
/-- A thread that is not at what it must be; one of another kind. -/
theorem rdo_not (kd th ct : Int) (rd : Bool) (hk : 2 ≤ kd ∧ kd ≤ 4) (h1 : ¬ th < 0) (h2 : ¬ (som T : Int) ≤ th) (hq : (rstate l th : Int) ≠ kd - 1) :
    Calls Try.prog 17 #[.int .i64 T, .slice A l.length cap, .agg #[.int .i64 kd, .int .i64 th, .bool rd, .int .i64 ct]] w fun r w' => r = .returned (.int .i64 6) ∧ Below w.heap.size w w' := by
  rcases (show kd = 2 ∨ kd = 3 ∨ kd = 4 by omega) with rfl | rfl | rfl
  · have hst : ∀ n, _ := fun n => rstate_any l A cap th _ ((w.alloc (.cells #[.int .i64 2, .int .i64 th, .bool rd, .int .i64 ct] 29)).drewN n) (by omega) ((hs.push _).drews n)
    have hrr : ∀ n, _ := fun n => reads_any l A cap th _ ((w.alloc (.cells #[.int .i64 2, .int .i64 th, .bool rd, .int .i64 ct] 29)).drewN n) (by omega) ((hs.push _).drews n)
    have HS := Lib.hid hst
    have HR := Lib.hid hrr
    clear hst hrr
    have hd : decide (th < 0) = false := by simpa using h1
    clear hs HR
    generalize rstate l th = q at HS hq
    have e1 := ibne (show ¬ (q : Int) = 1 by omega)
    clear hq
    go_enter Try.func17, Try.ntmps17
    go_wp2_with fail
    go_quiet ((go_at_call 69; exact Calls.quiet_of_same (some_any T _)))
    go_wp2_with fail
    refine (HS.out _).mono ?_
    rintro e wx ⟨rfl, hwx⟩
    obtain rfl := hwx.symm
    go_wp2_with fail
    go_ret
    exact ⟨rfl, below_drewN (below_new _ _) _⟩
  · have hst : ∀ n, _ := fun n => rstate_any l A cap th _ ((w.alloc (.cells #[.int .i64 3, .int .i64 th, .bool rd, .int .i64 ct] 29)).drewN n) (by omega) ((hs.push _).drews n)
    have hrr : ∀ n, _ := fun n => reads_any l A cap th _ ((w.alloc (.cells #[.int .i64 3, .int .i64 th, .bool rd, .int .i64 ct] 29)).drewN n) (by omega) ((hs.push _).drews n)
    have HS := Lib.hid hst
    have HR := Lib.hid hrr
    clear hst hrr
    have hd : decide (th < 0) = false := by simpa using h1
    clear hs HR
    generalize rstate l th = q at HS hq
    have e1 := ibne (show ¬ (q : Int) = 2 by omega)
    clear hq
    go_enter Try.func17, Try.ntmps17
    go_wp2_with fail
    go_quiet ((go_at_call 69; exact Calls.quiet_of_same (some_any T _)))
    go_wp2_with fail
    refine (HS.out _).mono ?_
    rintro e wx ⟨rfl, hwx⟩
    obtain rfl := hwx.symm
    go_wp2_with fail
    go_ret
    exact ⟨rfl, below_drewN (below_new _ _) _⟩
  · have hst : ∀ n, _ := fun n => rstate_any l A cap th _ ((w.alloc (.cells #[.int .i64 4, .int .i64 th, .bool rd, .int .i64 ct] 29)).drewN n) (by omega) ((hs.push _).drews n)
    have hrr : ∀ n, _ := fun n => reads_any l A cap th _ ((w.alloc (.cells #[.int .i64 4, .int .i64 th, .bool rd, .int .i64 ct] 29)).drewN n) (by omega) ((hs.push _).drews n)
    have HS := Lib.hid hst
    have HR := Lib.hid hrr
    clear hst hrr
    have hd : decide (th < 0) = false := by simpa using h1
    clear hs HR
    generalize rstate l th = q at HS hq
    have e1 := ibne (show ¬ (q : Int) = 3 by omega)
    clear hq
    go_enter Try.func17, Try.ntmps17
    go_wp2_with fail
    go_quiet ((go_at_call 69; exact Calls.quiet_of_same (some_any T _)))
    go_wp2_with fail
    refine (HS.out _).mono ?_
    rintro e wx ⟨rfl, hwx⟩
    obtain rfl := hwx.symm
    go_wp2_with fail
    go_ret
    exact ⟨rfl, below_drewN (below_new _ _) _⟩
theorem rdo_read (kd th ct : Int) (rd : Bool) (hk : 2 ≤ kd ∧ kd ≤ 4) (h1 : ¬ th < 0) (h2 : ¬ (som T : Int) ≤ th) (hq : (rstate l th : Int) = kd - 1) (hr : rd ≠ reads l th) :
    Calls Try.prog 17 #[.int .i64 T, .slice A l.length cap, .agg #[.int .i64 kd, .int .i64 th, .bool rd, .int .i64 ct]] w fun r w' => r = .returned (.int .i64 7) ∧ Below w.heap.size w w' := by
  rcases (show kd = 2 ∨ kd = 3 ∨ kd = 4 by omega) with rfl | rfl | rfl
  · have hst : ∀ n, _ := fun n => rstate_any l A cap th _ ((w.alloc (.cells #[.int .i64 2, .int .i64 th, .bool rd, .int .i64 ct] 29)).drewN n) (by omega) ((hs.push _).drews n)
    have hrr : ∀ n, _ := fun n => reads_any l A cap th _ ((w.alloc (.cells #[.int .i64 2, .int .i64 th, .bool rd, .int .i64 ct] 29)).drewN n) (by omega) ((hs.push _).drews n)
    have HS := Lib.hid hst
    have HR := Lib.hid hrr
    clear hst hrr
    have hd : decide (th < 0) = false := by simpa using h1
    have hq2 : rstate l th = 1 := by omega
    rw [hq2] at HS
    obtain ⟨b, hb⟩ : ∃ b, reads l th = b := ⟨_, rfl⟩
    rw [hb] at hr
    have e1 : (rd == b) = false := by simpa using hr
    have HB := Lib.hid hb
    clear hq hq2 hr HR hb
    go_enter Try.func17, Try.ntmps17
    go_wp2_with fail
    go_quiet ((go_at_call 69; exact Calls.quiet_of_same (some_any T _)))
    go_wp2_with fail
    refine (HS.out _).mono ?_
    rintro e wx ⟨rfl, hwx⟩
    obtain rfl := hwx.symm
    clear HS
    go_wp2_with fail
    have hs3 := Lib.hid ((hs.push (.cells #[.int .i64 2, .int .i64 th, .bool rd, .int .i64 ct] 29)).drews nq)
    have c0 : ((w.alloc (.cells #[.int .i64 2, .int .i64 th, .bool rd, .int .i64 ct] 29)).drewN nq).cell? ⟨w.heap.size, 0, none⟩ = some (.int .i64 2) := by rw [World.cell?_drewN, World.cell?_alloc_at _ _ _ _ rfl]; rfl
    have c1 : ((w.alloc (.cells #[.int .i64 2, .int .i64 th, .bool rd, .int .i64 ct] 29)).drewN nq).cell? ⟨w.heap.size, 1, none⟩ = some (.int .i64 th) := by rw [World.cell?_drewN, World.cell?_alloc_at _ _ _ _ rfl]; rfl
    have c2 : ((w.alloc (.cells #[.int .i64 2, .int .i64 th, .bool rd, .int .i64 ct] 29)).drewN nq).cell? ⟨w.heap.size, 2, none⟩ = some (.bool rd) := by rw [World.cell?_drewN, World.cell?_alloc_at _ _ _ _ rfl]; rfl
    have hb3 : Below w.heap.size w ((w.alloc (.cells #[.int .i64 2, .int .i64 th, .bool rd, .int .i64 ct] 29)).drewN nq) := below_drewN (below_new _ _) nq
    generalize (w.alloc (.cells #[.int .i64 2, .int .i64 th, .bool rd, .int .i64 ct] 29)).drewN nq = W at *
    have HR3 := Lib.hid (fun m => reads_any l A cap th _ (W.drewN m) (by omega) (hs3.out.drews m))
    rw [HB.out] at HR3
    go_quiet ((go_at_call 24; exact Calls.quiet_of_same (HR3.out _)))
    go_wp2_with fail
    go_ret
    exact ⟨rfl, below_drewN hb3 _⟩
  · have hst : ∀ n, _ := fun n => rstate_any l A cap th _ ((w.alloc (.cells #[.int .i64 3, .int .i64 th, .bool rd, .int .i64 ct] 29)).drewN n) (by omega) ((hs.push _).drews n)
    have hrr : ∀ n, _ := fun n => reads_any l A cap th _ ((w.alloc (.cells #[.int .i64 3, .int .i64 th, .bool rd, .int .i64 ct] 29)).drewN n) (by omega) ((hs.push _).drews n)
    have HS := Lib.hid hst
    have HR := Lib.hid hrr
    clear hst hrr
    have hd : decide (th < 0) = false := by simpa using h1
    have hq2 : rstate l th = 2 := by omega
    rw [hq2] at HS
    obtain ⟨b, hb⟩ : ∃ b, reads l th = b := ⟨_, rfl⟩
    rw [hb] at hr
    have e1 : (rd == b) = false := by simpa using hr
    have HB := Lib.hid hb
    clear hq hq2 hr HR hb
    go_enter Try.func17, Try.ntmps17
    go_wp2_with fail
    go_quiet ((go_at_call 69; exact Calls.quiet_of_same (some_any T _)))
    go_wp2_with fail
    refine (HS.out _).mono ?_
    rintro e wx ⟨rfl, hwx⟩
    obtain rfl := hwx.symm
    clear HS
    go_wp2_with fail
    have hs3 := Lib.hid ((hs.push (.cells #[.int .i64 3, .int .i64 th, .bool rd, .int .i64 ct] 29)).drews nq)
    have c0 : ((w.alloc (.cells #[.int .i64 3, .int .i64 th, .bool rd, .int .i64 ct] 29)).drewN nq).cell? ⟨w.heap.size, 0, none⟩ = some (.int .i64 3) := by rw [World.cell?_drewN, World.cell?_alloc_at _ _ _ _ rfl]; rfl
    have c1 : ((w.alloc (.cells #[.int .i64 3, .int .i64 th, .bool rd, .int .i64 ct] 29)).drewN nq).cell? ⟨w.heap.size, 1, none⟩ = some (.int .i64 th) := by rw [World.cell?_drewN, World.cell?_alloc_at _ _ _ _ rfl]; rfl
    have c2 : ((w.alloc (.cells #[.int .i64 3, .int .i64 th, .bool rd, .int .i64 ct] 29)).drewN nq).cell? ⟨w.heap.size, 2, none⟩ = some (.bool rd) := by rw [World.cell?_drewN, World.cell?_alloc_at _ _ _ _ rfl]; rfl
    have hb3 : Below w.heap.size w ((w.alloc (.cells #[.int .i64 3, .int .i64 th, .bool rd, .int .i64 ct] 29)).drewN nq) := below_drewN (below_new _ _) nq
    generalize (w.alloc (.cells #[.int .i64 3, .int .i64 th, .bool rd, .int .i64 ct] 29)).drewN nq = W at *
    have HR3 := Lib.hid (fun m => reads_any l A cap th _ (W.drewN m) (by omega) (hs3.out.drews m))
    rw [HB.out] at HR3
    go_quiet ((go_at_call 24; exact Calls.quiet_of_same (HR3.out _)))
    go_wp2_with fail
    go_ret
    exact ⟨rfl, below_drewN hb3 _⟩
  · have hst : ∀ n, _ := fun n => rstate_any l A cap th _ ((w.alloc (.cells #[.int .i64 4, .int .i64 th, .bool rd, .int .i64 ct] 29)).drewN n) (by omega) ((hs.push _).drews n)
    have hrr : ∀ n, _ := fun n => reads_any l A cap th _ ((w.alloc (.cells #[.int .i64 4, .int .i64 th, .bool rd, .int .i64 ct] 29)).drewN n) (by omega) ((hs.push _).drews n)
    have HS := Lib.hid hst
    have HR := Lib.hid hrr
    clear hst hrr
    have hd : decide (th < 0) = false := by simpa using h1
    have hq2 : rstate l th = 3 := by omega
    rw [hq2] at HS
    obtain ⟨b, hb⟩ : ∃ b, reads l th = b := ⟨_, rfl⟩
    rw [hb] at hr
    have e1 : (rd == b) = false := by simpa using hr
    have HB := Lib.hid hb
    clear hq hq2 hr HR hb
    go_enter Try.func17, Try.ntmps17
    go_wp2_with fail
    go_quiet ((go_at_call 69; exact Calls.quiet_of_same (some_any T _)))
    go_wp2_with fail
    refine (HS.out _).mono ?_
    rintro e wx ⟨rfl, hwx⟩
    obtain rfl := hwx.symm
    clear HS
    go_wp2_with fail
    have hs3 := Lib.hid ((hs.push (.cells #[.int .i64 4, .int .i64 th, .bool rd, .int .i64 ct] 29)).drews nq)
    have c0 : ((w.alloc (.cells #[.int .i64 4, .int .i64 th, .bool rd, .int .i64 ct] 29)).drewN nq).cell? ⟨w.heap.size, 0, none⟩ = some (.int .i64 4) := by rw [World.cell?_drewN, World.cell?_alloc_at _ _ _ _ rfl]; rfl
    have c1 : ((w.alloc (.cells #[.int .i64 4, .int .i64 th, .bool rd, .int .i64 ct] 29)).drewN nq).cell? ⟨w.heap.size, 1, none⟩ = some (.int .i64 th) := by rw [World.cell?_drewN, World.cell?_alloc_at _ _ _ _ rfl]; rfl
    have c2 : ((w.alloc (.cells #[.int .i64 4, .int .i64 th, .bool rd, .int .i64 ct] 29)).drewN nq).cell? ⟨w.heap.size, 2, none⟩ = some (.bool rd) := by rw [World.cell?_drewN, World.cell?_alloc_at _ _ _ _ rfl]; rfl
    have hb3 : Below w.heap.size w ((w.alloc (.cells #[.int .i64 4, .int .i64 th, .bool rd, .int .i64 ct] 29)).drewN nq) := below_drewN (below_new _ _) nq
    generalize (w.alloc (.cells #[.int .i64 4, .int .i64 th, .bool rd, .int .i64 ct] 29)).drewN nq = W at *
    have HR3 := Lib.hid (fun m => reads_any l A cap th _ (W.drewN m) (by omega) (hs3.out.drews m))
    rw [HB.out] at HR3
    go_quiet ((go_at_call 24; exact Calls.quiet_of_same (HR3.out _)))
    go_wp2_with fail
    go_ret
    exact ⟨rfl, below_drewN hb3 _⟩
theorem rdo_go (kd th ct : Int) (rd : Bool) (hk : 3 ≤ kd ∧ kd ≤ 4) (h1 : ¬ th < 0) (h2 : ¬ (som T : Int) ≤ th) (hq : (rstate l th : Int) = kd - 1) (hr : rd = reads l th) :
    Calls Try.prog 17 #[.int .i64 T, .slice A l.length cap, .agg #[.int .i64 kd, .int .i64 th, .bool rd, .int .i64 ct]] w fun r w' => r = .returned (.int .i64 0) ∧ Below w.heap.size w w' := by
  rcases (show kd = 3 ∨ kd = 4 by omega) with rfl | rfl
  · have hst : ∀ n, _ := fun n => rstate_any l A cap th _ ((w.alloc (.cells #[.int .i64 3, .int .i64 th, .bool rd, .int .i64 ct] 29)).drewN n) (by omega) ((hs.push _).drews n)
    have hrr : ∀ n, _ := fun n => reads_any l A cap th _ ((w.alloc (.cells #[.int .i64 3, .int .i64 th, .bool rd, .int .i64 ct] 29)).drewN n) (by omega) ((hs.push _).drews n)
    have HS := Lib.hid hst
    have HR := Lib.hid hrr
    clear hst hrr
    have hd : decide (th < 0) = false := by simpa using h1
    have hq2 : rstate l th = 2 := by omega
    rw [hq2] at HS
    obtain ⟨b, hb⟩ : ∃ b, reads l th = b := ⟨_, rfl⟩
    rw [hb] at hr
    subst hr
    have e1 : (rd == rd) = true := by simp
    have HB := Lib.hid hb
    clear hq hq2 HR hb
    go_enter Try.func17, Try.ntmps17
    go_wp2_with fail
    go_quiet ((go_at_call 69; exact Calls.quiet_of_same (some_any T _)))
    go_wp2_with fail
    refine (HS.out _).mono ?_
    rintro e wx ⟨rfl, hwx⟩
    obtain rfl := hwx.symm
    clear HS
    go_wp2_with fail
    have hs3 := Lib.hid ((hs.push (.cells #[.int .i64 3, .int .i64 th, .bool rd, .int .i64 ct] 29)).drews nq)
    have c0 : ((w.alloc (.cells #[.int .i64 3, .int .i64 th, .bool rd, .int .i64 ct] 29)).drewN nq).cell? ⟨w.heap.size, 0, none⟩ = some (.int .i64 3) := by rw [World.cell?_drewN, World.cell?_alloc_at _ _ _ _ rfl]; rfl
    have c1 : ((w.alloc (.cells #[.int .i64 3, .int .i64 th, .bool rd, .int .i64 ct] 29)).drewN nq).cell? ⟨w.heap.size, 1, none⟩ = some (.int .i64 th) := by rw [World.cell?_drewN, World.cell?_alloc_at _ _ _ _ rfl]; rfl
    have c2 : ((w.alloc (.cells #[.int .i64 3, .int .i64 th, .bool rd, .int .i64 ct] 29)).drewN nq).cell? ⟨w.heap.size, 2, none⟩ = some (.bool rd) := by rw [World.cell?_drewN, World.cell?_alloc_at _ _ _ _ rfl]; rfl
    have hb3 : Below w.heap.size w ((w.alloc (.cells #[.int .i64 3, .int .i64 th, .bool rd, .int .i64 ct] 29)).drewN nq) := below_drewN (below_new _ _) nq
    generalize (w.alloc (.cells #[.int .i64 3, .int .i64 th, .bool rd, .int .i64 ct] 29)).drewN nq = W at *
    have HR3 := Lib.hid (fun m => reads_any l A cap th _ (W.drewN m) (by omega) (hs3.out.drews m))
    rw [HB.out] at HR3
    go_quiet ((go_at_call 24; exact Calls.quiet_of_same (HR3.out _)))
    go_wp2_with fail
    go_ret
    exact ⟨rfl, below_drewN hb3 _⟩
  · have hst : ∀ n, _ := fun n => rstate_any l A cap th _ ((w.alloc (.cells #[.int .i64 4, .int .i64 th, .bool rd, .int .i64 ct] 29)).drewN n) (by omega) ((hs.push _).drews n)
    have hrr : ∀ n, _ := fun n => reads_any l A cap th _ ((w.alloc (.cells #[.int .i64 4, .int .i64 th, .bool rd, .int .i64 ct] 29)).drewN n) (by omega) ((hs.push _).drews n)
    have HS := Lib.hid hst
    have HR := Lib.hid hrr
    clear hst hrr
    have hd : decide (th < 0) = false := by simpa using h1
    have hq2 : rstate l th = 3 := by omega
    rw [hq2] at HS
    obtain ⟨b, hb⟩ : ∃ b, reads l th = b := ⟨_, rfl⟩
    rw [hb] at hr
    subst hr
    have e1 : (rd == rd) = true := by simp
    have HB := Lib.hid hb
    clear hq hq2 HR hb
    go_enter Try.func17, Try.ntmps17
    go_wp2_with fail
    go_quiet ((go_at_call 69; exact Calls.quiet_of_same (some_any T _)))
    go_wp2_with fail
    refine (HS.out _).mono ?_
    rintro e wx ⟨rfl, hwx⟩
    obtain rfl := hwx.symm
    clear HS
    go_wp2_with fail
    have hs3 := Lib.hid ((hs.push (.cells #[.int .i64 4, .int .i64 th, .bool rd, .int .i64 ct] 29)).drews nq)
    have c0 : ((w.alloc (.cells #[.int .i64 4, .int .i64 th, .bool rd, .int .i64 ct] 29)).drewN nq).cell? ⟨w.heap.size, 0, none⟩ = some (.int .i64 4) := by rw [World.cell?_drewN, World.cell?_alloc_at _ _ _ _ rfl]; rfl
    have c1 : ((w.alloc (.cells #[.int .i64 4, .int .i64 th, .bool rd, .int .i64 ct] 29)).drewN nq).cell? ⟨w.heap.size, 1, none⟩ = some (.int .i64 th) := by rw [World.cell?_drewN, World.cell?_alloc_at _ _ _ _ rfl]; rfl
    have c2 : ((w.alloc (.cells #[.int .i64 4, .int .i64 th, .bool rd, .int .i64 ct] 29)).drewN nq).cell? ⟨w.heap.size, 2, none⟩ = some (.bool rd) := by rw [World.cell?_drewN, World.cell?_alloc_at _ _ _ _ rfl]; rfl
    have hb3 : Below w.heap.size w ((w.alloc (.cells #[.int .i64 4, .int .i64 th, .bool rd, .int .i64 ct] 29)).drewN nq) := below_drewN (below_new _ _) nq
    generalize (w.alloc (.cells #[.int .i64 4, .int .i64 th, .bool rd, .int .i64 ct] 29)).drewN nq = W at *
    have HR3 := Lib.hid (fun m => reads_any l A cap th _ (W.drewN m) (by omega) (hs3.out.drews m))
    rw [HB.out] at HR3
    go_quiet ((go_at_call 24; exact Calls.quiet_of_same (HR3.out _)))
    go_wp2_with fail
    go_ret
    exact ⟨rfl, below_drewN hb3 _⟩
theorem rdo_enter (th ct : Int) (rd : Bool) (h1 : ¬ th < 0) (h2 : ¬ (som T : Int) ≤ th) (hq : (rstate l th : Int) = 1) (hr : rd = reads l th) :
    Calls Try.prog 17 #[.int .i64 T, .slice A l.length cap, .agg #[.int .i64 2, .int .i64 th, .bool rd, .int .i64 ct]] w fun r w' => r = .returned (.int .i64 (entersS (stL (som T) l) rd)) ∧ Below w.heap.size w w' := by
  unfold entersS
  have WX := Lib.hid (fun B W hs => rwriter_any T l A cap B W hm hs)
  have RX := Lib.hid (fun B W hs => rreaders_any T l A cap B W hm hs)
  generalize wOf (stL (som T) l) = x at WX ⊢
  generalize rOf (stL (som T) l) = y at RX ⊢
  by_cases hx : 0 ≤ x
  · rw [if_pos (.inl hx)]
    have hst : ∀ n, _ := fun n => rstate_any l A cap th _ ((w.alloc (.cells #[.int .i64 2, .int .i64 th, .bool rd, .int .i64 ct] 29)).drewN n) (by omega) ((hs.push _).drews n)
    have hrr : ∀ n, _ := fun n => reads_any l A cap th _ ((w.alloc (.cells #[.int .i64 2, .int .i64 th, .bool rd, .int .i64 ct] 29)).drewN n) (by omega) ((hs.push _).drews n)
    have HS := Lib.hid hst
    have HR := Lib.hid hrr
    clear hst hrr
    have hd : decide (th < 0) = false := by simpa using h1
    have hq2 : rstate l th = 1 := by omega
    rw [hq2] at HS
    have HB := Lib.hid hr.symm
    clear hq hq2 HR hr
    go_enter Try.func17, Try.ntmps17
    go_wp2_with fail
    go_quiet ((go_at_call 69; exact Calls.quiet_of_same (some_any T _)))
    go_wp2_with fail
    refine (HS.out _).mono ?_
    rintro e wx ⟨rfl, hwx⟩
    obtain rfl := hwx.symm
    clear HS
    go_wp2_with fail
    have hs3 := Lib.hid ((hs.push (.cells #[.int .i64 2, .int .i64 th, .bool rd, .int .i64 ct] 29)).drews nq)
    have c0 : ((w.alloc (.cells #[.int .i64 2, .int .i64 th, .bool rd, .int .i64 ct] 29)).drewN nq).cell? ⟨w.heap.size, 0, none⟩ = some (.int .i64 2) := by rw [World.cell?_drewN, World.cell?_alloc_at _ _ _ _ rfl]; rfl
    have c1 : ((w.alloc (.cells #[.int .i64 2, .int .i64 th, .bool rd, .int .i64 ct] 29)).drewN nq).cell? ⟨w.heap.size, 1, none⟩ = some (.int .i64 th) := by rw [World.cell?_drewN, World.cell?_alloc_at _ _ _ _ rfl]; rfl
    have c2 : ((w.alloc (.cells #[.int .i64 2, .int .i64 th, .bool rd, .int .i64 ct] 29)).drewN nq).cell? ⟨w.heap.size, 2, none⟩ = some (.bool rd) := by rw [World.cell?_drewN, World.cell?_alloc_at _ _ _ _ rfl]; rfl
    have hb3 : Below w.heap.size w ((w.alloc (.cells #[.int .i64 2, .int .i64 th, .bool rd, .int .i64 ct] 29)).drewN nq) := below_drewN (below_new _ _) nq
    generalize (w.alloc (.cells #[.int .i64 2, .int .i64 th, .bool rd, .int .i64 ct] 29)).drewN nq = W at *
    have HR3 := Lib.hid (fun m => reads_any l A cap th _ (W.drewN m) (by omega) (hs3.out.drews m))
    rw [HB.out] at HR3
    go_quiet ((go_at_call 24; exact Calls.quiet_of_same (HR3.out _)))
    go_wp2_with fail
    refine (WX.out _ _ (hs3.out.drews _)).mono ?_
    rintro e wx ⟨rfl, hwx⟩
    obtain rfl := hwx.symm
    go_wp2_with fail
    go_ret
    exact ⟨rfl, below_drewN hb3 _⟩
  · have hx2 : x < 0 := by omega
    cases hrd : rd
    · subst hrd
      by_cases hy : 0 < y
      · rw [if_pos (.inr ⟨rfl, hy⟩)]
        have hy2 : (0 : Int) < (y : Int) := by omega
        clear hx
        have hst : ∀ n, _ := fun n => rstate_any l A cap th _ ((w.alloc (.cells #[.int .i64 2, .int .i64 th, .bool false, .int .i64 ct] 29)).drewN n) (by omega) ((hs.push _).drews n)
        have hrr : ∀ n, _ := fun n => reads_any l A cap th _ ((w.alloc (.cells #[.int .i64 2, .int .i64 th, .bool false, .int .i64 ct] 29)).drewN n) (by omega) ((hs.push _).drews n)
        have HS := Lib.hid hst
        have HR := Lib.hid hrr
        clear hst hrr
        have hd : decide (th < 0) = false := by simpa using h1
        have hq2 : rstate l th = 1 := by omega
        rw [hq2] at HS
        have HB := Lib.hid hr.symm
        clear hq hq2 HR hr
        go_enter Try.func17, Try.ntmps17
        go_wp2_with fail
        go_quiet ((go_at_call 69; exact Calls.quiet_of_same (some_any T _)))
        go_wp2_with fail
        refine (HS.out _).mono ?_
        rintro e wx ⟨rfl, hwx⟩
        obtain rfl := hwx.symm
        clear HS
        go_wp2_with fail
        have hs3 := Lib.hid ((hs.push (.cells #[.int .i64 2, .int .i64 th, .bool false, .int .i64 ct] 29)).drews nq)
        have c0 : ((w.alloc (.cells #[.int .i64 2, .int .i64 th, .bool false, .int .i64 ct] 29)).drewN nq).cell? ⟨w.heap.size, 0, none⟩ = some (.int .i64 2) := by rw [World.cell?_drewN, World.cell?_alloc_at _ _ _ _ rfl]; rfl
        have c1 : ((w.alloc (.cells #[.int .i64 2, .int .i64 th, .bool false, .int .i64 ct] 29)).drewN nq).cell? ⟨w.heap.size, 1, none⟩ = some (.int .i64 th) := by rw [World.cell?_drewN, World.cell?_alloc_at _ _ _ _ rfl]; rfl
        have c2 : ((w.alloc (.cells #[.int .i64 2, .int .i64 th, .bool false, .int .i64 ct] 29)).drewN nq).cell? ⟨w.heap.size, 2, none⟩ = some (.bool false) := by rw [World.cell?_drewN, World.cell?_alloc_at _ _ _ _ rfl]; rfl
        have hb3 : Below w.heap.size w ((w.alloc (.cells #[.int .i64 2, .int .i64 th, .bool false, .int .i64 ct] 29)).drewN nq) := below_drewN (below_new _ _) nq
        generalize (w.alloc (.cells #[.int .i64 2, .int .i64 th, .bool false, .int .i64 ct] 29)).drewN nq = W at *
        have HR3 := Lib.hid (fun m => reads_any l A cap th _ (W.drewN m) (by omega) (hs3.out.drews m))
        rw [HB.out] at HR3
        go_quiet ((go_at_call 24; exact Calls.quiet_of_same (HR3.out _)))
        go_wp2_with fail
        refine (WX.out _ _ (hs3.out.drews _)).mono ?_
        rintro e wx ⟨rfl, hwx⟩
        obtain rfl := hwx.symm
        go_wp2_with fail
        refine (RX.out _ _ (hs3.out.drews _)).mono ?_
        rintro e wx ⟨rfl, hwx⟩
        obtain rfl := hwx.symm
        go_wp2_with fail
        go_ret
        exact ⟨rfl, below_drewN hb3 _⟩
      · rw [if_neg (by rintro (q | ⟨_, q⟩); exact hx q; exact hy q)]
        have hy2 : ¬ (0 : Int) < (y : Int) := by omega
        clear hx
        have hst : ∀ n, _ := fun n => rstate_any l A cap th _ ((w.alloc (.cells #[.int .i64 2, .int .i64 th, .bool false, .int .i64 ct] 29)).drewN n) (by omega) ((hs.push _).drews n)
        have hrr : ∀ n, _ := fun n => reads_any l A cap th _ ((w.alloc (.cells #[.int .i64 2, .int .i64 th, .bool false, .int .i64 ct] 29)).drewN n) (by omega) ((hs.push _).drews n)
        have HS := Lib.hid hst
        have HR := Lib.hid hrr
        clear hst hrr
        have hd : decide (th < 0) = false := by simpa using h1
        have hq2 : rstate l th = 1 := by omega
        rw [hq2] at HS
        have HB := Lib.hid hr.symm
        clear hq hq2 HR hr
        go_enter Try.func17, Try.ntmps17
        go_wp2_with fail
        go_quiet ((go_at_call 69; exact Calls.quiet_of_same (some_any T _)))
        go_wp2_with fail
        refine (HS.out _).mono ?_
        rintro e wx ⟨rfl, hwx⟩
        obtain rfl := hwx.symm
        clear HS
        go_wp2_with fail
        have hs3 := Lib.hid ((hs.push (.cells #[.int .i64 2, .int .i64 th, .bool false, .int .i64 ct] 29)).drews nq)
        have c0 : ((w.alloc (.cells #[.int .i64 2, .int .i64 th, .bool false, .int .i64 ct] 29)).drewN nq).cell? ⟨w.heap.size, 0, none⟩ = some (.int .i64 2) := by rw [World.cell?_drewN, World.cell?_alloc_at _ _ _ _ rfl]; rfl
        have c1 : ((w.alloc (.cells #[.int .i64 2, .int .i64 th, .bool false, .int .i64 ct] 29)).drewN nq).cell? ⟨w.heap.size, 1, none⟩ = some (.int .i64 th) := by rw [World.cell?_drewN, World.cell?_alloc_at _ _ _ _ rfl]; rfl
        have c2 : ((w.alloc (.cells #[.int .i64 2, .int .i64 th, .bool false, .int .i64 ct] 29)).drewN nq).cell? ⟨w.heap.size, 2, none⟩ = some (.bool false) := by rw [World.cell?_drewN, World.cell?_alloc_at _ _ _ _ rfl]; rfl
        have hb3 : Below w.heap.size w ((w.alloc (.cells #[.int .i64 2, .int .i64 th, .bool false, .int .i64 ct] 29)).drewN nq) := below_drewN (below_new _ _) nq
        generalize (w.alloc (.cells #[.int .i64 2, .int .i64 th, .bool false, .int .i64 ct] 29)).drewN nq = W at *
        have HR3 := Lib.hid (fun m => reads_any l A cap th _ (W.drewN m) (by omega) (hs3.out.drews m))
        rw [HB.out] at HR3
        go_quiet ((go_at_call 24; exact Calls.quiet_of_same (HR3.out _)))
        go_wp2_with fail
        refine (WX.out _ _ (hs3.out.drews _)).mono ?_
        rintro e wx ⟨rfl, hwx⟩
        obtain rfl := hwx.symm
        go_wp2_with fail
        refine (RX.out _ _ (hs3.out.drews _)).mono ?_
        rintro e wx ⟨rfl, hwx⟩
        obtain rfl := hwx.symm
        go_wp2_with fail
        go_ret
        exact ⟨rfl, below_drewN hb3 _⟩
    · subst hrd
      rw [if_neg (by rintro (q | ⟨q, _⟩); exact hx q; cases q)]
      clear hx
      have hst : ∀ n, _ := fun n => rstate_any l A cap th _ ((w.alloc (.cells #[.int .i64 2, .int .i64 th, .bool true, .int .i64 ct] 29)).drewN n) (by omega) ((hs.push _).drews n)
      have hrr : ∀ n, _ := fun n => reads_any l A cap th _ ((w.alloc (.cells #[.int .i64 2, .int .i64 th, .bool true, .int .i64 ct] 29)).drewN n) (by omega) ((hs.push _).drews n)
      have HS := Lib.hid hst
      have HR := Lib.hid hrr
      clear hst hrr
      have hd : decide (th < 0) = false := by simpa using h1
      have hq2 : rstate l th = 1 := by omega
      rw [hq2] at HS
      have HB := Lib.hid hr.symm
      clear hq hq2 HR hr
      go_enter Try.func17, Try.ntmps17
      go_wp2_with fail
      go_quiet ((go_at_call 69; exact Calls.quiet_of_same (some_any T _)))
      go_wp2_with fail
      refine (HS.out _).mono ?_
      rintro e wx ⟨rfl, hwx⟩
      obtain rfl := hwx.symm
      clear HS
      go_wp2_with fail
      have hs3 := Lib.hid ((hs.push (.cells #[.int .i64 2, .int .i64 th, .bool true, .int .i64 ct] 29)).drews nq)
      have c0 : ((w.alloc (.cells #[.int .i64 2, .int .i64 th, .bool true, .int .i64 ct] 29)).drewN nq).cell? ⟨w.heap.size, 0, none⟩ = some (.int .i64 2) := by rw [World.cell?_drewN, World.cell?_alloc_at _ _ _ _ rfl]; rfl
      have c1 : ((w.alloc (.cells #[.int .i64 2, .int .i64 th, .bool true, .int .i64 ct] 29)).drewN nq).cell? ⟨w.heap.size, 1, none⟩ = some (.int .i64 th) := by rw [World.cell?_drewN, World.cell?_alloc_at _ _ _ _ rfl]; rfl
      have c2 : ((w.alloc (.cells #[.int .i64 2, .int .i64 th, .bool true, .int .i64 ct] 29)).drewN nq).cell? ⟨w.heap.size, 2, none⟩ = some (.bool true) := by rw [World.cell?_drewN, World.cell?_alloc_at _ _ _ _ rfl]; rfl
      have hb3 : Below w.heap.size w ((w.alloc (.cells #[.int .i64 2, .int .i64 th, .bool true, .int .i64 ct] 29)).drewN nq) := below_drewN (below_new _ _) nq
      generalize (w.alloc (.cells #[.int .i64 2, .int .i64 th, .bool true, .int .i64 ct] 29)).drewN nq = W at *
      have HR3 := Lib.hid (fun m => reads_any l A cap th _ (W.drewN m) (by omega) (hs3.out.drews m))
      rw [HB.out] at HR3
      go_quiet ((go_at_call 24; exact Calls.quiet_of_same (HR3.out _)))
      go_wp2_with fail
      refine (WX.out _ _ (hs3.out.drews _)).mono ?_
      rintro e wx ⟨rfl, hwx⟩
      obtain rfl := hwx.symm
      go_wp2_with fail
      go_ret
      exact ⟨rfl, below_drewN hb3 _⟩
/-- The reference's Do, whole. -/
theorem rdo_any (e : Ev) : Calls Try.prog 17 #[.int .i64 T, .slice A l.length cap, .agg (decE e).toArray] w fun r w' => r = .returned (.int .i64 (rdo T l e)) ∧ Below w.heap.size w w' := by
  obtain ⟨kd, th, rd, ct⟩ := e
  change Calls Try.prog 17 #[.int .i64 T, .slice A l.length cap, .agg #[.int .i64 kd, .int .i64 th, .bool rd, .int .i64 ct]] w _
  unfold rdo
  simp only
  by_cases k1 : kd < 0 ∨ 5 < kd
  · rw [if_pos k1]
    exact rdo_kind T l A cap w kd th ct rd k1
  rw [if_neg k1]
  by_cases k0 : kd = 0 ∨ kd = 5
  · rw [if_pos k0]
    exact rdo_free T l A cap w kd th ct rd k0
  rw [if_neg k0]
  by_cases hh : th < 0 ∨ (som T : Int) ≤ th
  · rw [if_pos hh]
    exact rdo_none T l A cap w kd th ct rd (by omega) hh
  rw [if_neg hh]
  by_cases ka : kd = 1
  · subst ka
    rw [if_pos rfl]
    exact rdo_ask T l A cap w hm hs th ct rd (by omega) (by omega)
  rw [if_neg ka]
  by_cases hq : (rstate l th : Int) ≠ kd - 1
  · rw [if_pos hq]
    exact rdo_not T l A cap w hm hs kd th ct rd (by omega) (by omega) (by omega) hq
  rw [if_neg hq]
  have hq : (rstate l th : Int) = kd - 1 := by omega
  by_cases hr : rd ≠ reads l th
  · rw [if_pos hr]
    exact rdo_read T l A cap w hm hs kd th ct rd (by omega) (by omega) (by omega) hq hr
  rw [if_neg hr]
  have hr : rd = reads l th := by simpa using hr
  by_cases ke : kd = 2
  · subst ke
    rw [if_pos rfl]
    exact rdo_enter T l A cap w hm hs th ct rd (by omega) (by omega) (by omega) hr
  rw [if_neg ke]
  exact rdo_go T l A cap w hm hs kd th ct rd (by omega) (by omega) (by omega) hq hr
end
end Go.Proofs.Ytfdcojhgpfmloaa.Sha
