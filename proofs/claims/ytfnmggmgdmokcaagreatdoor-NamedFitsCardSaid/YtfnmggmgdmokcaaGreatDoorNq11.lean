/- Merged texts: Fl6, FlO1, Qu, Qu2. -/
import Derived.Test.YtfnmggmgdmokcaaGreatDoorNq10
set_option linter.unusedVariables false
/- Package flat: New, of all kinds. -/
namespace Go.Proofs.YtfnmggmgdmokcaaGreatDoor.Fl
open Go.RowKit Go.Proofs.YtfnmggmgdmokcaaGreatDoor.Ara Go.Proofs.YtfnmggmgdmokcaaGreatDoor.Lok

set_option maxRecDepth 100000 in
theorem new_k1 (ga ha : Nat) (σ σ1 : Ar) (w : World) (H : ArAt w ga ha σ) (hh : ha < w.heap.size) (n : Nat) (n1 : 1 ≤ n) (n2 : n ≤ 32) (par : Int) (m1 : 1 ≤ par) (m2 : par ≤ 1024) (next : Int) (ht : σ.take 1 = ((next, 0), σ1)) :
    Calls Tryz.prog 25 #[.pointer (some ⟨ga, 0, none⟩), .int .i64 1, .int .i64 (n : Int), .int .i64 par] w fun e w' => ∃ gf gl hs, e = .returned (.tuple #[.pointer (some ⟨gf, 0, none⟩), .int .i64 0]) ∧ FlB w' gf 1 103 (.agg #[.pointer (some ⟨gl, 0, none⟩)]) ∧ Ta.LkAt w' gl ga ha hs ⟨next, par⟩ σ1 (Ta.zeroS n) ∧ (w.heap.size ≤ gf ∧ w.heap.size ≤ gl ∧ w.heap.size ≤ hs ∧ gf ≠ hs) ∧ Mod [ga, ha] w w' := by
  have HN := Lib.hid (Ta.new_lk ga ha σ σ1 w H hh n n1 n2 par m1 m2 next ht)
  clear H ht
  go_enter Tryz.func25, Tryz.ntmps25
  go_wp2_with fail
  refine HN.out.mono ?_
  rintro e w2 ⟨gl, hs, rfl, hk, hgl, hhs, hm⟩
  have hbn := below_new w2 (.cells #[.int .i64 1, .iface 103 (.agg #[.pointer (some ⟨gl, 0, none⟩)])] 117)
  have HB := Lib.hid (blk_new w2 (.cells #[.int .i64 1, .iface 103 (.agg #[.pointer (some ⟨gl, 0, none⟩)])] 117))
  have hz := hm.size
  have hlt := hk.2.1.lt
  have HK := Lib.hid (hk.same hbn)
  have hmm := hm.alloc (.cells #[.int .i64 1, .iface 103 (.agg #[.pointer (some ⟨gl, 0, none⟩)])] 117)
  clear hk hm hbn
  go_wp2_with fail
  go_ret2
  exact ⟨w2.heap.size, gl, hs, rfl, HB.out, HK.out, by omega, hmm⟩
set_option maxRecDepth 100000 in
theorem new_k2 (ga ha : Nat) (σ σ1 : Ar) (w : World) (H : ArAt w ga ha σ) (hh : ha < w.heap.size) (n : Nat) (n1 : 1 ≤ n) (n2 : n ≤ 32) (par : Int) (next : Int) (ht : σ.take 2 = ((next, 0), σ1)) :
    Calls Tryz.prog 25 #[.pointer (some ⟨ga, 0, none⟩), .int .i64 2, .int .i64 (n : Int), .int .i64 par] w fun e w' => ∃ gf gl hs, e = .returned (.tuple #[.pointer (some ⟨gf, 0, none⟩), .int .i64 0]) ∧ FlB w' gf 2 104 (.pointer (some ⟨gl, 0, none⟩)) ∧ Tk.LkAt w' gl ga ha hs ⟨next⟩ σ1 (Ta.zeroS n) ∧ (w.heap.size ≤ gf ∧ w.heap.size ≤ gl ∧ w.heap.size ≤ hs ∧ gf ≠ hs) ∧ Mod [ga, ha] w w' := by
  have HN := Lib.hid (Tk.new_lk ga ha σ σ1 w H hh n n1 n2 next ht)
  clear H ht
  go_enter Tryz.func25, Tryz.ntmps25
  go_wp2_with fail
  refine HN.out.mono ?_
  rintro e w2 ⟨gl, hs, rfl, hk, hgl, hhs, hm⟩
  have hbn := below_new w2 (.cells #[.int .i64 2, .iface 104 (.pointer (some ⟨gl, 0, none⟩))] 117)
  have HB := Lib.hid (blk_new w2 (.cells #[.int .i64 2, .iface 104 (.pointer (some ⟨gl, 0, none⟩))] 117))
  have hz := hm.size
  have hlt := hk.2.1.lt
  have HK := Lib.hid (hk.same hbn)
  have hmm := hm.alloc (.cells #[.int .i64 2, .iface 104 (.pointer (some ⟨gl, 0, none⟩))] 117)
  clear hk hm hbn
  go_wp2_with fail
  go_ret2
  exact ⟨w2.heap.size, gl, hs, rfl, HB.out, HK.out, by omega, hmm⟩
set_option maxRecDepth 100000 in
theorem new_k3 (ga ha : Nat) (σ σ1 : Ar) (w : World) (H : ArAt w ga ha σ) (hh : ha < w.heap.size) (n : Nat) (n1 : 1 ≤ n) (n2 : n ≤ 32) (par : Int) (p1 : 1 ≤ par) (p2 : par ≤ 32) (next : Int) (x1 : 1 ≤ next) (x2 : next ≤ 4096) (ht : σ.take (1 + par) = ((next, 0), σ1)) (ho : σ1.ops ≤ 1000000) :
    Calls Tryz.prog 25 #[.pointer (some ⟨ga, 0, none⟩), .int .i64 3, .int .i64 (n : Int), .int .i64 par] w fun e w' => ∃ gf gl hs, e = .returned (.tuple #[.pointer (some ⟨gf, 0, none⟩), .int .i64 0]) ∧ FlB w' gf 3 107 (.pointer (some ⟨gl, 0, none⟩)) ∧ Pt.LkAt w' gl ga ha hs ⟨next, par⟩ (σ1.op 2 (Pt.place ⟨next, par⟩ 0) true 1) (Pt.zeroS n) ∧ (w.heap.size ≤ gf ∧ w.heap.size ≤ gl ∧ w.heap.size ≤ hs ∧ gf ≠ hs) ∧ Mod [ga, ha] w w' := by
  have HN := Lib.hid (Pt.new_lk ga ha σ σ1 w H hh n n1 n2 par next p1 p2 x1 x2 ht ho)
  clear H ht
  go_enter Tryz.func25, Tryz.ntmps25
  go_wp2_with fail
  refine HN.out.mono ?_
  rintro e w2 ⟨gl, hs, rfl, hk, hgl, hhs, hm⟩
  have hbn := below_new w2 (.cells #[.int .i64 3, .iface 107 (.pointer (some ⟨gl, 0, none⟩))] 117)
  have HB := Lib.hid (blk_new w2 (.cells #[.int .i64 3, .iface 107 (.pointer (some ⟨gl, 0, none⟩))] 117))
  have hz := hm.size
  have hlt := hk.2.1.lt
  have HK := Lib.hid (hk.same hbn)
  have hmm := hm.alloc (.cells #[.int .i64 3, .iface 107 (.pointer (some ⟨gl, 0, none⟩))] 117)
  clear hk hm hbn
  go_wp2_with fail
  go_ret2
  exact ⟨w2.heap.size, gl, hs, rfl, HB.out, HK.out, by omega, hmm⟩
set_option maxRecDepth 100000 in
theorem new_k4 (ga ha : Nat) (σ σ1 : Ar) (w : World) (H : ArAt w ga ha σ) (hh : ha < w.heap.size) (n : Nat) (n1 : 1 ≤ n) (n2 : n ≤ 32) (par : Int) (next : Int) (x1 : 1 ≤ next) (x2 : next ≤ 4096) (ht : σ.take (1 + 2 * (n : Int)) = ((next, 0), σ1)) (ho : σ1.ops ≤ 1000000) :
    Calls Tryz.prog 25 #[.pointer (some ⟨ga, 0, none⟩), .int .i64 4, .int .i64 (n : Int), .int .i64 par] w fun e w' => ∃ gf gl hs, e = .returned (.tuple #[.pointer (some ⟨gf, 0, none⟩), .int .i64 0]) ∧ FlB w' gf 4 110 (.pointer (some ⟨gl, 0, none⟩)) ∧ Mc.LkAt w' gl ga ha hs ⟨next⟩ σ1 (Mc.zeroS n) ∧ (w.heap.size ≤ gf ∧ w.heap.size ≤ gl ∧ w.heap.size ≤ hs ∧ gf ≠ hs) ∧ Mod [ga, ha] w w' := by
  have HN := Lib.hid (Mc.new_lk ga ha σ σ1 w H hh n n1 n2 next x1 x2 ht ho)
  clear H ht
  go_enter Tryz.func25, Tryz.ntmps25
  go_wp2_with fail
  refine HN.out.mono ?_
  rintro e w2 ⟨gl, hs, rfl, hk, hgl, hhs, hm⟩
  have hbn := below_new w2 (.cells #[.int .i64 4, .iface 110 (.pointer (some ⟨gl, 0, none⟩))] 117)
  have HB := Lib.hid (blk_new w2 (.cells #[.int .i64 4, .iface 110 (.pointer (some ⟨gl, 0, none⟩))] 117))
  have hz := hm.size
  have hlt := hk.2.1.lt
  have HK := Lib.hid (hk.same hbn)
  have hmm := hm.alloc (.cells #[.int .i64 4, .iface 110 (.pointer (some ⟨gl, 0, none⟩))] 117)
  clear hk hm hbn
  go_wp2_with fail
  go_ret2
  exact ⟨w2.heap.size, gl, hs, rfl, HB.out, HK.out, by omega, hmm⟩
set_option maxRecDepth 100000 in
theorem new_k5 (ga ha : Nat) (σ σ1 : Ar) (w : World) (H : ArAt w ga ha σ) (hh : ha < w.heap.size) (n : Nat) (n1 : 1 ≤ n) (n2 : n ≤ 32) (par : Int) (next : Int) (x1 : 1 ≤ next) (x2 : next ≤ 4096) (ht : σ.take ((n : Int) + 2) = ((next, 0), σ1)) (ho : σ1.ops ≤ 1000000) :
    Calls Tryz.prog 25 #[.pointer (some ⟨ga, 0, none⟩), .int .i64 5, .int .i64 (n : Int), .int .i64 par] w fun e w' => ∃ gf gl hs, e = .returned (.tuple #[.pointer (some ⟨gf, 0, none⟩), .int .i64 0]) ∧ FlB w' gf 5 113 (.pointer (some ⟨gl, 0, none⟩)) ∧ Cl.LkAt w' gl ga ha hs ⟨next⟩ (σ1.op 2 next true ((n : Int) + 1)) (Cl.first0 n) ∧ (w.heap.size ≤ gf ∧ w.heap.size ≤ gl ∧ w.heap.size ≤ hs ∧ gf ≠ hs) ∧ Mod [ga, ha] w w' := by
  have HN := Lib.hid (Cl.new_lk ga ha σ σ1 w H hh n n1 n2 next x1 x2 ht ho)
  clear H ht
  go_enter Tryz.func25, Tryz.ntmps25
  go_wp2_with fail
  refine HN.out.mono ?_
  rintro e w2 ⟨gl, hs, rfl, hk, hgl, hhs, hm⟩
  have hbn := below_new w2 (.cells #[.int .i64 5, .iface 113 (.pointer (some ⟨gl, 0, none⟩))] 117)
  have HB := Lib.hid (blk_new w2 (.cells #[.int .i64 5, .iface 113 (.pointer (some ⟨gl, 0, none⟩))] 117))
  have hz := hm.size
  have hlt := hk.2.1.lt
  have HK := Lib.hid (hk.same hbn)
  have hmm := hm.alloc (.cells #[.int .i64 5, .iface 113 (.pointer (some ⟨gl, 0, none⟩))] 117)
  clear hk hm hbn
  go_wp2_with fail
  go_ret2
  exact ⟨w2.heap.size, gl, hs, rfl, HB.out, HK.out, by omega, hmm⟩
def sizeK (kind : Int) (n : Nat) (par : Int) : Nat := if kind = 1 then 1 else if kind = 2 then 2 else if kind = 3 then 1 + par.toNat else if kind = 4 then 1 + 2 * n else n + 2
def mayK (kind : Int) (n : Nat) (par : Int) : Prop := (1 ≤ kind ∧ kind ≤ 5) ∧ (1 ≤ n ∧ n ≤ 32) ∧ (kind = 1 → 1 ≤ par ∧ par ≤ 1024) ∧ (kind = 3 → 1 ≤ par ∧ par ≤ 32)
def pkK (kind par : Int) (a : Nat) : PK := if kind = 1 then .tas ⟨a, par⟩ else if kind = 2 then .tic ⟨a⟩ else if kind = 3 then .par ⟨a, par⟩ else if kind = 4 then .mcs ⟨a⟩ else .clh ⟨a⟩
def firstK (kind : Int) (n : Nat) (par : Int) (a : Nat) (σ1 : Ar) : Ar × List Sp :=
  if kind = 3 then (σ1.op 2 (Pt.place ⟨a, par⟩ 0) true 1, Pt.zeroS n) else if kind = 5 then (σ1.op 2 (a : Int) true ((n : Int) + 1), Cl.first0 n) else (σ1, Ta.zeroS n)
theorem take_ok {σ : Ar} {m : Nat} (h : σ.t + m ≤ σ.ws.length) : σ.take (m : Int) = (((σ.t : Int) + 1, 0), { σ with t := σ.t + m }) := by
  unfold Ar.take
  rw [if_neg (by omega), if_neg (by omega), Int.toNat_natCast]
def NewAft (kind : Int) (n : Nat) (par : Int) (ga ha : Nat) (σ : Ar) (w : World) (e : Ending) (w' : World) : Prop :=
  ∃ gf gl hs, e = .returned (.tuple #[.pointer (some ⟨gf, 0, none⟩), .int .i64 0]) ∧ FLAt w' gf gl ga ha hs (pkK kind par (σ.t + 1)) (firstK kind n par (σ.t + 1) { σ with t := σ.t + sizeK kind n par }).1 (firstK kind n par (σ.t + 1) { σ with t := σ.t + sizeK kind n par }).2 ∧ (w.heap.size ≤ gf ∧ w.heap.size ≤ gl ∧ w.heap.size ≤ hs) ∧ Mod [ga, ha] w w'
theorem new_flat (kind : Int) (n : Nat) (par : Int) (hM : mayK kind n par) (ga ha : Nat) (σ : Ar) (w : World) (H : ArAt w ga ha σ) (hh : ha < w.heap.size) (hr : σ.t + sizeK kind n par ≤ σ.ws.length) (hw : σ.ws.length ≤ 4096) (ho : σ.ops ≤ 1000000) :
    Calls Tryz.prog 25 #[.pointer (some ⟨ga, 0, none⟩), .int .i64 kind, .int .i64 (n : Int), .int .i64 par] w (NewAft kind n par ga ha σ w) := by
  obtain ⟨⟨k1, k5⟩, ⟨n1, n2⟩, ha1, ha3⟩ := hM
  have hga := H.lt
  have htk := take_ok hr
  rcases (show kind = 1 ∨ kind = 2 ∨ kind = 3 ∨ kind = 4 ∨ kind = 5 by omega) with rfl | rfl | rfl | rfl | rfl
  · obtain ⟨m1, m2⟩ := ha1 rfl
    refine (new_k1 ga ha σ _ w H hh n n1 n2 par m1 m2 _ htk).mono ?_
    rintro e w' ⟨gf, gl, hs, rfl, hf, hk, ⟨b1, b2, b3, b4⟩, hm⟩
    exact ⟨gf, gl, hs, rfl, ⟨hf, hk, by omega, by omega, b4⟩, ⟨b1, b2, b3⟩, hm⟩
  · refine (new_k2 ga ha σ _ w H hh n n1 n2 par _ htk).mono ?_
    rintro e w' ⟨gf, gl, hs, rfl, hf, hk, ⟨b1, b2, b3, b4⟩, hm⟩
    exact ⟨gf, gl, hs, rfl, ⟨hf, hk, by omega, by omega, b4⟩, ⟨b1, b2, b3⟩, hm⟩
  · obtain ⟨p1, p2⟩ := ha3 rfl
    have hsz : sizeK 3 n par = 1 + par.toNat := rfl
    rw [hsz] at hr htk
    rw [show ((1 + par.toNat : Nat) : Int) = 1 + par by omega] at htk
    refine (new_k3 ga ha σ _ w H hh n n1 n2 par p1 p2 _ (by omega) (by omega) htk ho).mono ?_
    rintro e w' ⟨gf, gl, hs, rfl, hf, hk, ⟨b1, b2, b3, b4⟩, hm⟩
    exact ⟨gf, gl, hs, rfl, ⟨hf, hk, by omega, by omega, b4⟩, ⟨b1, b2, b3⟩, hm⟩
  · have hsz : sizeK 4 n par = 1 + 2 * n := rfl
    rw [hsz] at hr htk
    rw [show ((1 + 2 * n : Nat) : Int) = 1 + 2 * (n : Int) by omega] at htk
    refine (new_k4 ga ha σ _ w H hh n n1 n2 par _ (by omega) (by omega) htk ho).mono ?_
    rintro e w' ⟨gf, gl, hs, rfl, hf, hk, ⟨b1, b2, b3, b4⟩, hm⟩
    exact ⟨gf, gl, hs, rfl, ⟨hf, hk, by omega, by omega, b4⟩, ⟨b1, b2, b3⟩, hm⟩
  · have hsz : sizeK 5 n par = n + 2 := rfl
    rw [hsz] at hr htk
    rw [show ((n + 2 : Nat) : Int) = (n : Int) + 2 by omega] at htk
    refine (new_k5 ga ha σ _ w H hh n n1 n2 par _ (by omega) (by omega) htk ho).mono ?_
    rintro e w' ⟨gf, gl, hs, rfl, hf, hk, ⟨b1, b2, b3, b4⟩, hm⟩
    exact ⟨gf, gl, hs, rfl, ⟨hf, hk, by omega, by omega, b4⟩, ⟨b1, b2, b3⟩, hm⟩
end Go.Proofs.YtfnmggmgdmokcaaGreatDoor.Fl

/- Locks of any kind: slots hold in the order of their doorways: the plain law, by that of each kind. -/
namespace Go.Proofs.YtfnmggmgdmokcaaGreatDoor.Fl
open Go.RowKit Go.Proofs.YtfnmggmgdmokcaaGreatDoor.Ara Go.Proofs.YtfnmggmgdmokcaaGreatDoor.Lok

end Go.Proofs.YtfnmggmgdmokcaaGreatDoor.Fl

/- Locks of the kinds that keep order: the queue of those who have passed the doorway. -/
namespace Go.Proofs.YtfnmggmgdmokcaaGreatDoor.Fl
open Go.RowKit Go.Proofs.YtfnmggmgdmokcaaGreatDoor.Ara Go.Proofs.YtfnmggmgdmokcaaGreatDoor.Lok

theorem list_ext_get {α : Type} {l : List α} {a : α} (h : a ∈ l) : ∃ k, ∃ hk : k < l.length, l[k] = a := by
  obtain ⟨k, hk, e⟩ := List.mem_iff_getElem.1 h
  exact ⟨k, hk, e⟩
theorem head_zero {α : Type} {l : List α} (h : 0 < l.length) : l.head? = some l[0] := by
  cases l with
  | nil => simp at h
  | cons a l => rfl
theorem spOf_turnS {sp : List Sp} {i fr tO : Int} (j : Int) : spOf (turnS sp i fr tO) j = if turnB sp i fr = true ∧ j = i then { spOf sp i with pc := tO } else spOf sp j := by
  cases ht : turnB sp i fr with
  | false => rw [turn_no tO ht, if_neg (by simp)]
  | true =>
    rw [spOf_turn tO ht j]
    by_cases e : j = i
    · rw [if_pos e, if_pos ⟨rfl, e⟩]
    · rw [if_neg e, if_neg (fun h => e h.2)]
def Tkq (P : Tk.Par) (σ : Ar) (sp : List Sp) (q : List Int) : Prop := ∃ S T : Nat, Tk.Inv P σ sp S T ∧ q.length + S = T ∧ ∀ k (h : k < q.length), Tk.inq (spOf sp q[k]) ∧ (spOf sp q[k]).a = (S : Int) + k
section
variable {P : Tk.Par} {σ : Ar} {sp : List Sp} {q : List Int} (h : Tkq P σ sp q)
include h
theorem Tkq.mem (i : Int) : i ∈ q ↔ Tk.inq (spOf sp i) := by
  obtain ⟨S, T, hi, hl, hk⟩ := h
  constructor
  · intro hm
    obtain ⟨k, k1, rfl⟩ := list_ext_get hm
    exact (hk k k1).1
  · intro hq
    have ht := hi.tick i hq
    have h1 : ((spOf sp i).a - S).toNat < q.length := by omega
    have h2 := hk _ h1
    have e : q[((spOf sp i).a - S).toNat] = i := hi.inj _ _ h2.1 hq (by rw [h2.2]; omega)
    rw [← e]
    exact List.getElem_mem h1
theorem Tkq.head {i : Int} (hp : (spOf sp i).pc = 10 ∨ (spOf sp i).pc = 11) : q.head? = some i := by
  have hm := (h.mem i).2 (.inr hp)
  obtain ⟨S, T, hi, hl, hk⟩ := h
  obtain ⟨k, k1, e⟩ := list_ext_get hm
  have a1 := (hk k k1).2
  rw [e, hi.hold i hp] at a1
  obtain rfl : k = 0 := by omega
  rw [head_zero k1, e]
theorem Tkq.serves {i : Int} (hh : q.head? = some i) : σ.get (Tk.place P (spOf sp i).a) = (spOf sp i).a := by
  obtain ⟨S, T, hi, hl, hk⟩ := h
  have h0 : 0 < q.length := by cases q with | nil => simp at hh | cons a l => simp
  rw [head_zero h0] at hh
  injection hh with hh
  have := (hk 0 h0).2
  rw [hh] at this
  have e : (spOf sp i).a = (S : Int) := by rw [this]; exact Int.add_zero _
  rw [e]
  exact hi.srv
theorem Tkq.first {i : Int} (hq : Tk.inq (spOf sp i)) (hs : σ.get (Tk.place P (spOf sp i).a) = (spOf sp i).a) : q.head? = some i := by
  have hm := (h.mem i).2 hq
  obtain ⟨S, T, hi, hl, hk⟩ := h
  have ha := hi.served i hq hs
  obtain ⟨k, k1, e⟩ := list_ext_get hm
  have a1 := (hk k k1).2
  rw [e, ha] at a1
  obtain rfl : k = 0 := by omega
  rw [head_zero k1, e]
theorem Tkq.step (i : Int) : ((spOf sp i).pc = 1 ∧ Tkq P (Tk.stepP P σ sp i).2.1 (Tk.stepP P σ sp i).2.2 (q ++ [i])) ∨ ((spOf sp i).pc = 11 ∧ (Tk.stepP P σ sp i).1 = true ∧ ∃ t, q = i :: t ∧ Tkq P (Tk.stepP P σ sp i).2.1 (Tk.stepP P σ sp i).2.2 t) ∨ ((spOf sp i).pc ≠ 1 ∧ (spOf sp i).pc ≠ 11 ∧ Tkq P (Tk.stepP P σ sp i).2.1 (Tk.stepP P σ sp i).2.2 q) := by
  have hm := h.mem
  have hhd := @Tkq.head P σ sp q h
  have hfs := @Tkq.first P σ sp q h
  obtain ⟨S, T, hi, hl, hk⟩ := h
  by_cases h1 : (spOf sp i).pc = 1
  · left
    refine ⟨h1, ?_⟩
    obtain ⟨i0, i1⟩ := spOf_range (sp := sp) (i := i) (by omega)
    have hni : ¬ Tk.inq (spOf sp i) := by unfold Tk.inq; omega
    have hs := spOf_set i0 i1 { spOf sp i with pc := 2, a := σ.get P.next }
    have hv := hi.takes i _ hs hni rfl hi.gT
    rw [← hi.gT] at hv
    rw [Tk.step_1 h1]
    refine ⟨S, T + 1, hv, by simp; omega, fun k hkl => ?_⟩
    by_cases e : k < q.length
    · rw [List.getElem_append_left e]
      have hne : q[k] ≠ i := fun e2 => hni (e2 ▸ (hk k e).1)
      show Tk.inq (spOf (sp.set i.toNat _) q[k]) ∧ (spOf (sp.set i.toNat _) q[k]).a = _
      rw [hs, if_neg hne]
      exact hk k e
    · have ek : k = q.length := by simp at hkl; omega
      subst ek
      rw [List.getElem_append_right (Nat.le_refl _)]
      simp only [Nat.sub_self, List.getElem_cons_zero]
      show Tk.inq (spOf (sp.set i.toNat _) i) ∧ (spOf (sp.set i.toNat _) i).a = _
      rw [hs, if_pos rfl]
      refine ⟨.inl rfl, ?_⟩
      show σ.get P.next = _
      rw [hi.gT]
      omega
  right
  by_cases h3 : (spOf sp i).pc = 11
  · left
    have hh := hhd (.inr h3)
    have e := hi.hold i (.inr h3)
    obtain ⟨i0, i1⟩ := spOf_range (sp := sp) (i := i) (by omega)
    have hs := spOf_set i0 i1 { spOf sp i with pc := 0 }
    have hv := hi.passes i _ hs (.inr h3) rfl rfl
    rw [← e] at hv
    rw [Tk.step_11 h3]
    refine ⟨h3, rfl, ?_⟩
    cases q with
    | nil => simp at hh
    | cons a t =>
      obtain rfl : a = i := by simpa using hh
      refine ⟨t, rfl, S + 1, T, hv, by simp at hl; omega, fun k hkl => ?_⟩
      have h5 := hk (k + 1) (by simpa using hkl)
      simp only [List.getElem_cons_succ] at h5
      have hne : t[k] ≠ a := by
        intro e2
        have := h5.2
        rw [e2, e] at this
        omega
      show Tk.inq (spOf (sp.set a.toNat _) t[k]) ∧ (spOf (sp.set a.toNat _) t[k]).a = _
      rw [hs, if_neg hne]
      exact ⟨h5.1, by rw [h5.2]; omega⟩
  right
  refine ⟨h1, h3, ?_⟩
  by_cases h2 : (spOf sp i).pc = 2
  · rw [Tk.step_2 h2]
    obtain ⟨i0, i1⟩ := spOf_range (sp := sp) (i := i) (by omega)
    by_cases hc : σ.get (Tk.place P (spOf sp i).a) = (spOf sp i).a
    · have hs := spOf_set i0 i1 { spOf sp i with pc := 10 }
      rw [if_pos hc]
      refine ⟨S, T, (hi.keeps i _ hs (.inl h2) (.inl rfl) rfl (hi.served i (.inl h2) hc)).read _ _, hl, fun k hkl => ?_⟩
      have h5 := hk k hkl
      show Tk.inq (spOf (sp.set i.toNat _) q[k]) ∧ (spOf (sp.set i.toNat _) q[k]).a = _
      rw [hs]
      by_cases e : q[k] = i
      · rw [if_pos e]
        rw [e] at h5
        exact ⟨.inr (.inl rfl), h5.2⟩
      · rw [if_neg e]; exact h5
    · rw [if_neg hc]
      exact ⟨S, T, hi.read _ _, hl, hk⟩
  · rw [Tk.step_no h1 h2 h3]
    exact ⟨S, T, hi, hl, hk⟩
theorem Tkq.ask (i : Int) : Tkq P σ (turnS sp i 0 1) q := by
  have hm := h.mem
  obtain ⟨S, T, hi, hl, hk⟩ := h
  cases ht : turnB sp i 0 with
  | false => rw [turn_no 1 ht]; exact ⟨S, T, hi, hl, hk⟩
  | true =>
    have hp := (turn_true ht).2
    have hni : ¬ Tk.inq (spOf sp i) := by unfold Tk.inq; omega
    refine ⟨S, T, hi.idle i _ (spOf_turn 1 ht) hni (.inr rfl) rfl, hl, fun k hkl => ?_⟩
    have hne : q[k] ≠ i := fun e2 => hni (e2 ▸ (hk k hkl).1)
    rw [spOf_turn 1 ht, if_neg hne]
    exact hk k hkl
theorem Tkq.leave (i : Int) : Tkq P σ (turnS sp i 10 11) q := by
  obtain ⟨S, T, hi, hl, hk⟩ := h
  cases ht : turnB sp i 10 with
  | false => rw [turn_no 11 ht]; exact ⟨S, T, hi, hl, hk⟩
  | true =>
    have hp := (turn_true ht).2
    refine ⟨S, T, hi.keeps i _ (spOf_turn 11 ht) (.inr (.inl hp)) (.inr rfl) rfl (hi.hold i (.inl hp)), hl, fun k hkl => ?_⟩
    have h5 := hk k hkl
    rw [spOf_turn 11 ht]
    by_cases e : q[k] = i
    · rw [if_pos e]
      rw [e] at h5
      exact ⟨.inr (.inr rfl), h5.2⟩
    · rw [if_neg e]; exact h5
theorem Tkq.alone (i : Int) : Tkq P (Tk.aloneP P σ sp i).2 sp q := by
  obtain ⟨S, T, hi, hl, hk⟩ := h
  unfold Tk.aloneP
  split
  · exact ⟨S, T, hi.read _ _, hl, hk⟩
  · exact ⟨S, T, hi, hl, hk⟩
end
def Ptq (P : Pt.Par) (σ : Ar) (sp : List Sp) (q : List Int) : Prop := ∃ S T : Nat, Pt.Inv P σ sp S T ∧ q.length + S = T ∧ ∀ k (h : k < q.length), Pt.inq (spOf sp q[k]) ∧ (spOf sp q[k]).a = (S : Int) + k
section
variable {P : Pt.Par} {σ : Ar} {sp : List Sp} {q : List Int} (h : Ptq P σ sp q)
include h
theorem Ptq.mem (i : Int) : i ∈ q ↔ Pt.inq (spOf sp i) := by
  obtain ⟨S, T, hi, hl, hk⟩ := h
  constructor
  · intro hm
    obtain ⟨k, k1, rfl⟩ := list_ext_get hm
    exact (hk k k1).1
  · intro hq
    have ht := hi.tick i hq
    have h1 : ((spOf sp i).a - S).toNat < q.length := by omega
    have h2 := hk _ h1
    have e : q[((spOf sp i).a - S).toNat] = i := hi.inj _ _ h2.1 hq (by rw [h2.2]; omega)
    rw [← e]
    exact List.getElem_mem h1
theorem Ptq.head {i : Int} (hp : (spOf sp i).pc = 10 ∨ (spOf sp i).pc = 11) : q.head? = some i := by
  have hm := (h.mem i).2 (.inr hp)
  obtain ⟨S, T, hi, hl, hk⟩ := h
  obtain ⟨k, k1, e⟩ := list_ext_get hm
  have a1 := (hk k k1).2
  rw [e, hi.hold i hp] at a1
  obtain rfl : k = 0 := by omega
  rw [head_zero k1, e]
theorem Ptq.serves {i : Int} (hh : q.head? = some i) : σ.get (Pt.place P (spOf sp i).a) = (spOf sp i).a + 1 := by
  obtain ⟨S, T, hi, hl, hk⟩ := h
  have h0 : 0 < q.length := by cases q with | nil => simp at hh | cons a l => simp
  rw [head_zero h0] at hh
  injection hh with hh
  have := (hk 0 h0).2
  rw [hh] at this
  have e : (spOf sp i).a = (S : Int) := by rw [this]; exact Int.add_zero _
  rw [e]
  exact hi.srv
theorem Ptq.first {i : Int} (hq : Pt.inq (spOf sp i)) (hs : σ.get (Pt.place P (spOf sp i).a) = (spOf sp i).a + 1) : q.head? = some i := by
  have hm := (h.mem i).2 hq
  obtain ⟨S, T, hi, hl, hk⟩ := h
  have ha := hi.served i hq hs
  obtain ⟨k, k1, e⟩ := list_ext_get hm
  have a1 := (hk k k1).2
  rw [e, ha] at a1
  obtain rfl : k = 0 := by omega
  rw [head_zero k1, e]
theorem Ptq.step (i : Int) : ((spOf sp i).pc = 1 ∧ Ptq P (Pt.stepP P σ sp i).2.1 (Pt.stepP P σ sp i).2.2 (q ++ [i])) ∨ ((spOf sp i).pc = 11 ∧ (Pt.stepP P σ sp i).1 = true ∧ ∃ t, q = i :: t ∧ Ptq P (Pt.stepP P σ sp i).2.1 (Pt.stepP P σ sp i).2.2 t) ∨ ((spOf sp i).pc ≠ 1 ∧ (spOf sp i).pc ≠ 11 ∧ Ptq P (Pt.stepP P σ sp i).2.1 (Pt.stepP P σ sp i).2.2 q) := by
  have hm := h.mem
  have hhd := @Ptq.head P σ sp q h
  have hfs := @Ptq.first P σ sp q h
  obtain ⟨S, T, hi, hl, hk⟩ := h
  by_cases h1 : (spOf sp i).pc = 1
  · left
    refine ⟨h1, ?_⟩
    obtain ⟨i0, i1⟩ := spOf_range (sp := sp) (i := i) (by omega)
    have hni : ¬ Pt.inq (spOf sp i) := by unfold Pt.inq; omega
    have hs := spOf_set i0 i1 { spOf sp i with pc := 2, a := σ.get P.next }
    have hv := hi.takes i _ hs hni rfl hi.gT
    rw [← hi.gT] at hv
    rw [Pt.step_1 h1]
    refine ⟨S, T + 1, hv, by simp; omega, fun k hkl => ?_⟩
    by_cases e : k < q.length
    · rw [List.getElem_append_left e]
      have hne : q[k] ≠ i := fun e2 => hni (e2 ▸ (hk k e).1)
      show Pt.inq (spOf (sp.set i.toNat _) q[k]) ∧ (spOf (sp.set i.toNat _) q[k]).a = _
      rw [hs, if_neg hne]
      exact hk k e
    · have ek : k = q.length := by simp at hkl; omega
      subst ek
      rw [List.getElem_append_right (Nat.le_refl _)]
      simp only [Nat.sub_self, List.getElem_cons_zero]
      show Pt.inq (spOf (sp.set i.toNat _) i) ∧ (spOf (sp.set i.toNat _) i).a = _
      rw [hs, if_pos rfl]
      refine ⟨.inl rfl, ?_⟩
      show σ.get P.next = _
      rw [hi.gT]
      omega
  right
  by_cases h3 : (spOf sp i).pc = 11
  · left
    have hh := hhd (.inr h3)
    have e := hi.hold i (.inr h3)
    obtain ⟨i0, i1⟩ := spOf_range (sp := sp) (i := i) (by omega)
    have hs := spOf_set i0 i1 { spOf sp i with pc := 0 }
    have hv := hi.passes i _ hs (.inr h3) rfl rfl
    rw [← e] at hv
    rw [Pt.step_11 h3]
    refine ⟨h3, rfl, ?_⟩
    cases q with
    | nil => simp at hh
    | cons a t =>
      obtain rfl : a = i := by simpa using hh
      refine ⟨t, rfl, S + 1, T, hv, by simp at hl; omega, fun k hkl => ?_⟩
      have h5 := hk (k + 1) (by simpa using hkl)
      simp only [List.getElem_cons_succ] at h5
      have hne : t[k] ≠ a := by
        intro e2
        have := h5.2
        rw [e2, e] at this
        omega
      show Pt.inq (spOf (sp.set a.toNat _) t[k]) ∧ (spOf (sp.set a.toNat _) t[k]).a = _
      rw [hs, if_neg hne]
      exact ⟨h5.1, by rw [h5.2]; omega⟩
  right
  refine ⟨h1, h3, ?_⟩
  by_cases h2 : (spOf sp i).pc = 2
  · rw [Pt.step_2 h2]
    obtain ⟨i0, i1⟩ := spOf_range (sp := sp) (i := i) (by omega)
    by_cases hc : σ.get (Pt.place P (spOf sp i).a) = (spOf sp i).a + 1
    · have hs := spOf_set i0 i1 { spOf sp i with pc := 10 }
      rw [if_pos hc]
      refine ⟨S, T, (hi.keeps i _ hs (.inl h2) (.inl rfl) rfl (hi.served i (.inl h2) hc)).read _ _, hl, fun k hkl => ?_⟩
      have h5 := hk k hkl
      show Pt.inq (spOf (sp.set i.toNat _) q[k]) ∧ (spOf (sp.set i.toNat _) q[k]).a = _
      rw [hs]
      by_cases e : q[k] = i
      · rw [if_pos e]
        rw [e] at h5
        exact ⟨.inr (.inl rfl), h5.2⟩
      · rw [if_neg e]; exact h5
    · rw [if_neg hc]
      exact ⟨S, T, hi.read _ _, hl, hk⟩
  · rw [Pt.step_no h1 h2 h3]
    exact ⟨S, T, hi, hl, hk⟩
theorem Ptq.ask (i : Int) : Ptq P σ (turnS sp i 0 1) q := by
  have hm := h.mem
  obtain ⟨S, T, hi, hl, hk⟩ := h
  cases ht : turnB sp i 0 with
  | false => rw [turn_no 1 ht]; exact ⟨S, T, hi, hl, hk⟩
  | true =>
    have hp := (turn_true ht).2
    have hni : ¬ Pt.inq (spOf sp i) := by unfold Pt.inq; omega
    refine ⟨S, T, hi.idle i _ (spOf_turn 1 ht) hni (.inr rfl) rfl, hl, fun k hkl => ?_⟩
    have hne : q[k] ≠ i := fun e2 => hni (e2 ▸ (hk k hkl).1)
    rw [spOf_turn 1 ht, if_neg hne]
    exact hk k hkl
theorem Ptq.leave (i : Int) : Ptq P σ (turnS sp i 10 11) q := by
  obtain ⟨S, T, hi, hl, hk⟩ := h
  cases ht : turnB sp i 10 with
  | false => rw [turn_no 11 ht]; exact ⟨S, T, hi, hl, hk⟩
  | true =>
    have hp := (turn_true ht).2
    refine ⟨S, T, hi.keeps i _ (spOf_turn 11 ht) (.inr (.inl hp)) (.inr rfl) rfl (hi.hold i (.inl hp)), hl, fun k hkl => ?_⟩
    have h5 := hk k hkl
    rw [spOf_turn 11 ht]
    by_cases e : q[k] = i
    · rw [if_pos e]
      rw [e] at h5
      exact ⟨.inr (.inr rfl), h5.2⟩
    · rw [if_neg e]; exact h5
theorem Ptq.alone (i : Int) : Ptq P (Pt.aloneP P σ sp i).2 sp q := by
  obtain ⟨S, T, hi, hl, hk⟩ := h
  unfold Pt.aloneP
  split
  · exact ⟨S, T, hi.read _ _, hl, hk⟩
  · exact ⟨S, T, hi, hl, hk⟩
end
end Go.Proofs.YtfnmggmgdmokcaaGreatDoor.Fl

/- The queue of a lock that keeps order: how each step turns it, and how much is left tO do. -/
namespace Go.Proofs.YtfnmggmgdmokcaaGreatDoor.Fl
open Go.RowKit Go.Proofs.YtfnmggmgdmokcaaGreatDoor.Ara Go.Proofs.YtfnmggmgdmokcaaGreatDoor.Lok

def dr : PK → Int
  | .tas _ => 0
  | .tic _ => 1
  | .par _ => 1
  | .mcs _ => 3
  | .clh _ => 2
def QuK : PK → Ar → List Sp → List Int → Prop
  | .tas _, _, _, _ => False
  | .tic P, σ, sp, q => Tkq P σ sp q
  | .par P, σ, sp, q => Ptq P σ sp q
  | .mcs P, σ, sp, q => Mc.Inv P σ sp q
  | .clh P, σ, sp, q => ∃ z, Cl.Inv P σ sp z q
theorem Tkq.pcs {P : Tk.Par} {σ : Ar} {sp : List Sp} {q : List Int} (h : Tkq P σ sp q) (i : Int) : (spOf sp i).pc = 0 ∨ (spOf sp i).pc = 1 ∨ (spOf sp i).pc = 2 ∨ (spOf sp i).pc = 10 ∨ (spOf sp i).pc = 11 := by
  obtain ⟨S, T, hi, _⟩ := h
  have := hi.pcs i
  unfold Tk.inq at this
  omega
theorem Ptq.pcs {P : Pt.Par} {σ : Ar} {sp : List Sp} {q : List Int} (h : Ptq P σ sp q) (i : Int) : (spOf sp i).pc = 0 ∨ (spOf sp i).pc = 1 ∨ (spOf sp i).pc = 2 ∨ (spOf sp i).pc = 10 ∨ (spOf sp i).pc = 11 := by
  obtain ⟨S, T, hi, _⟩ := h
  have := hi.pcs i
  unfold Pt.inq at this
  omega
theorem clpcs {P : Cl.Par} {σ : Ar} {sp : List Sp} {z : Int} {q : List Int} (h : Cl.Inv P σ sp z q) (i : Int) : (spOf sp i).pc = 0 ∨ (spOf sp i).pc = 1 ∨ (spOf sp i).pc = 2 ∨ (spOf sp i).pc = 3 ∨ (spOf sp i).pc = 10 ∨ (spOf sp i).pc = 11 := by
  have := h.pcs i
  unfold Cl.inq Cl.inn at this
  omega
theorem mcpcs {P : Mc.Par} {σ : Ar} {sp : List Sp} {q : List Int} (h : Mc.Inv P σ sp q) (i : Int) : (spOf sp i).pc = 0 ∨ (spOf sp i).pc = 1 ∨ (spOf sp i).pc = 2 ∨ (spOf sp i).pc = 3 ∨ (spOf sp i).pc = 4 ∨ (spOf sp i).pc = 5 ∨ (spOf sp i).pc = 10 ∨ (spOf sp i).pc = 11 ∨ (spOf sp i).pc = 12 ∨ (spOf sp i).pc = 13 ∨ (spOf sp i).pc = 14 := by
  have := h.pcs i
  unfold Mc.inq Mc.outs at this
  omega
section
variable {p : PK} {σ : Ar} {sp : List Sp} {q : List Int} (h : QuK p σ sp q)
include h
theorem QuK.mem (i : Int) : i ∈ q ↔ dr p < (spOf sp i).pc := by
  cases p with
  | tas P => exact absurd h id
  | tic P => have h : Tkq P σ sp q := h; rw [h.mem i]; have := h.pcs i; unfold Tk.inq; show _ ↔ (1 : Int) < _; omega
  | par P => have h : Ptq P σ sp q := h; rw [h.mem i]; have := h.pcs i; unfold Pt.inq; show _ ↔ (1 : Int) < _; omega
  | mcs P => have h : Mc.Inv P σ sp q := h; rw [h.mem i]; have := mcpcs h i; unfold Mc.inq Mc.outs; show _ ↔ (3 : Int) < _; omega
  | clh P => obtain ⟨z, h⟩ := h; rw [h.mem i]; have := clpcs h i; unfold Cl.inq Cl.inn; show _ ↔ (2 : Int) < _; omega
theorem QuK.head {i : Int} (hp : 10 ≤ (spOf sp i).pc) : q.head? = some i := by
  cases p with
  | tas P => exact absurd h id
  | tic P => have h : Tkq P σ sp q := h; exact h.head (by have := h.pcs i; omega)
  | par P => have h : Ptq P σ sp q := h; exact h.head (by have := h.pcs i; omega)
  | mcs P => have h : Mc.Inv P σ sp q := h; exact h.first i (by have := mcpcs h i; unfold Mc.outs; omega)
  | clh P => obtain ⟨z, h⟩ := h; exact h.first i (by have := clpcs h i; unfold Cl.inn; omega)
theorem QuK.ask (i : Int) : QuK p (doK p σ sp 1 i).2.1 (doK p σ sp 1 i).2.2 q := by
  cases p with
  | tas P => exact absurd h id
  | tic P => exact Tkq.ask h i
  | par P => exact Ptq.ask h i
  | mcs P => exact Mc.inv_ask h
  | clh P => obtain ⟨z, h⟩ := h; exact ⟨z, Cl.inv_ask h i⟩
theorem QuK.leave (i : Int) : QuK p (doK p σ sp 2 i).2.1 (doK p σ sp 2 i).2.2 q := by
  cases p with
  | tas P => exact absurd h id
  | tic P => exact Tkq.leave h i
  | par P => exact Ptq.leave h i
  | mcs P => exact Mc.inv_leave h
  | clh P => obtain ⟨z, h⟩ := h; exact ⟨z, Cl.inv_leave h i⟩
theorem QuK.alone (i : Int) : QuK p (doK p σ sp 3 i).2.1 (doK p σ sp 3 i).2.2 q := by
  cases p with
  | tas P => exact absurd h id
  | tic P => exact Tkq.alone h i
  | par P => exact Ptq.alone h i
  | mcs P => exact Mc.inv_alone h
  | clh P => obtain ⟨z, h⟩ := h; exact ⟨z, Cl.inv_alone h i⟩
end
def QTurn (p : PK) (sp : List Sp) (q : List Int) (i : Int) (r : Bool × Ar × List Sp) : Prop :=
  ((0 < (spOf sp i).pc ∧ (spOf sp i).pc = dr p) ∧ QuK p r.2.1 r.2.2 (q ++ [i])) ∨ (10 < (spOf sp i).pc ∧ r.1 = true ∧ ∃ t, q = i :: t ∧ QuK p r.2.1 r.2.2 t) ∨ ((spOf sp i).pc ≠ dr p ∧ ¬ (10 < (spOf sp i).pc ∧ r.1 = true) ∧ QuK p r.2.1 r.2.2 q)
theorem QuK.step {p : PK} {σ : Ar} {sp : List Sp} {q : List Int} (h : QuK p σ sp q) (i : Int) : QTurn p sp q i (doK p σ sp 0 i) := by
  unfold QTurn
  cases p with
  | tas P => exact absurd h id
  | tic P =>
    have h : Tkq P σ sp q := h
    rcases h.step i with ⟨a, b⟩ | ⟨a, b, c⟩ | ⟨a, b, c⟩
    · exact .inl ⟨⟨by omega, a⟩, b⟩
    · exact .inr (.inl ⟨by omega, b, c⟩)
    · exact .inr (.inr ⟨a, fun e => by have := h.pcs i; omega, c⟩)
  | par P =>
    have h : Ptq P σ sp q := h
    rcases h.step i with ⟨a, b⟩ | ⟨a, b, c⟩ | ⟨a, b, c⟩
    · exact .inl ⟨⟨by omega, a⟩, b⟩
    · exact .inr (.inl ⟨by omega, b, c⟩)
    · exact .inr (.inr ⟨a, fun e => by have := h.pcs i; omega, c⟩)
  | mcs P =>
    have h : Mc.Inv P σ sp q := h
    show ((0 < (spOf sp i).pc ∧ (spOf sp i).pc = 3) ∧ Mc.Inv P (Mc.stepP P σ sp i).2.1 (Mc.stepP P σ sp i).2.2 (q ++ [i])) ∨ (10 < (spOf sp i).pc ∧ (Mc.stepP P σ sp i).1 = true ∧ ∃ t, q = i :: t ∧ Mc.Inv P (Mc.stepP P σ sp i).2.1 (Mc.stepP P σ sp i).2.2 t) ∨ ((spOf sp i).pc ≠ 3 ∧ ¬ (10 < (spOf sp i).pc ∧ (Mc.stepP P σ sp i).1 = true) ∧ Mc.Inv P (Mc.stepP P σ sp i).2.1 (Mc.stepP P σ sp i).2.2 q)
    rcases mcpcs h i with e | e | e | e | e | e | e | e | e | e | e
    · rw [Mc.step_no (.inl e)]; exact .inr (.inr ⟨by omega, by omega, h⟩)
    · rw [Mc.step_1 e]; exact .inr (.inr ⟨by omega, by omega, Mc.inv_1 h e⟩)
    · rw [Mc.step_2 e]; exact .inr (.inr ⟨by omega, by omega, Mc.inv_2 h e⟩)
    · rw [Mc.step_3 e]; exact .inl ⟨⟨by omega, e⟩, Mc.inv_3 h e⟩
    · rw [Mc.step_4 e]; exact .inr (.inr ⟨by omega, by omega, (Mc.inv_4 h e).1⟩)
    · rw [Mc.step_5 e]
      by_cases hg : σ.get (Mc.wt P (i + 1)) = 0
      · simp only [if_pos hg]; exact .inr (.inr ⟨by omega, by omega, (Mc.inv_5 h e hg).1⟩)
      · obtain ⟨i0, i1⟩ := spOf_range (sp := sp) (i := i) (by omega)
        simp only [if_neg hg]
        rw [Mc.set_same i0 i1 (by rw [← e])]
        exact .inr (.inr ⟨by omega, by omega, h.read _ _⟩)
    · rw [Mc.step_no (.inr e)]; exact .inr (.inr ⟨by omega, by omega, h⟩)
    · rw [Mc.step_look (.inl e)]; exact .inr (.inr ⟨by omega, by simp, Mc.inv_look h (.inl e)⟩)
    · rw [Mc.step_12 e, h.casB]
      by_cases hc : Mc.tailOf q = i + 1
      · rw [decide_eq_true hc]
        simp only [if_true]
        obtain ⟨h1, h2⟩ := Mc.inv_12 h e hc
        exact .inr (.inl ⟨by omega, by trivial, [], h2, h1⟩)
      · rw [decide_eq_false hc]
        simp only [Bool.false_eq_true, if_false]
        exact .inr (.inr ⟨by omega, by simp, Mc.inv_12b h e hc⟩)
    · rw [Mc.step_look (.inr e)]; exact .inr (.inr ⟨by omega, by simp, Mc.inv_look h (.inr e)⟩)
    · rw [Mc.step_14 e]
      obtain ⟨j, t, h1, _, hI⟩ := Mc.inv_14 h e
      exact .inr (.inl ⟨by omega, rfl, j :: t, h1, hI⟩)
  | clh P =>
    obtain ⟨z, h⟩ := h
    show ((0 < (spOf sp i).pc ∧ (spOf sp i).pc = 2) ∧ ∃ z, Cl.Inv P (Cl.stepP P σ sp i).2.1 (Cl.stepP P σ sp i).2.2 z (q ++ [i])) ∨ (10 < (spOf sp i).pc ∧ (Cl.stepP P σ sp i).1 = true ∧ ∃ t, q = i :: t ∧ ∃ z, Cl.Inv P (Cl.stepP P σ sp i).2.1 (Cl.stepP P σ sp i).2.2 z t) ∨ ((spOf sp i).pc ≠ 2 ∧ ¬ (10 < (spOf sp i).pc ∧ (Cl.stepP P σ sp i).1 = true) ∧ ∃ z, Cl.Inv P (Cl.stepP P σ sp i).2.1 (Cl.stepP P σ sp i).2.2 z q)
    rcases clpcs h i with e | e | e | e | e | e
    · rw [Cl.step_no (.inl e)]; exact .inr (.inr ⟨by omega, by omega, z, h⟩)
    · rw [Cl.step_1 e]; exact .inr (.inr ⟨by omega, by omega, z, Cl.inv_1 h e⟩)
    · rw [Cl.step_2 e]; exact .inl ⟨⟨by omega, e⟩, z, Cl.inv_2 h e⟩
    · rw [Cl.step_3 e]
      by_cases hg : σ.get (Cl.box P (spOf sp i).b) = 0
      · simp only [if_pos hg]; exact .inr (.inr ⟨by omega, by omega, z, Cl.inv_3 h e hg⟩)
      · simp only [if_neg hg]; exact .inr (.inr ⟨by omega, by omega, z, h.read _ _⟩)
    · rw [Cl.step_no (.inr e)]; exact .inr (.inr ⟨by omega, by omega, z, h⟩)
    · rw [Cl.step_11 e]
      have hh := h.first i (.inr e)
      refine .inr (.inl ⟨by omega, rfl, q.tail, ?_, _, Cl.inv_11 h e⟩)
      cases q with
      | nil => simp at hh
      | cons a t => simp at hh; rw [hh]; rfl
end Go.Proofs.YtfnmggmgdmokcaaGreatDoor.Fl

