/- copy into a row of the call's own, whole; make of numbers. -/
import Derived.Test.YtfdcojhgpfmloaaMake
import Derived.Laws.CopyOwn
namespace Go.Proofs.Ytfdcojhgpfmloaa
open Go.RowKit

theorem mod_setRow {g : Nat} {w : World} (cs : Array Value) : Mod [g] w (w.setRow g cs) :=
  ⟨rfl, rfl, rfl, by simp [World.setRow], fun k _ hk => setRow_other w g k cs (by simp at hk; exact hk)⟩
/-- 'copy(out, src)', out a row of the call's own that is as long as src. -/
theorem wpList_copy_row {P : Program} {w : World} {ops : Array Oper} {rest : List Oper} {o : Oper} {a : Act} {Q : Exit → Act → World → Prop} (d s : Operand) (dT sT : TypeId) (elem : TypeId) (hgd : o.guard = none)
    (ho : o.op = .call { callee := .builtin .copy, args := #[d, s], argTypes := #[dT, sT] }) (hu : P.underlying dT = some (.slice elem)) (hsz : (P.info? elem).map (·.size) = some 1)
    (g dCap sCap n : Nat) (sp : Option Addr) (hd : a.eval d = .slice (some ⟨g, 0, none⟩) n dCap) (hs : a.eval s = .slice sp n sCap)
    (cur : Array Value) (t : TypeId) (hg : w.heap[g]? = some (.cells cur t (0, 0))) (cs : List Value) (B : Nat) (hsl : Sl w B sp cs) (hn : cs.length = n) (hcur : cur.size = n) (h1 : ∀ v ∈ cs, v.oneCell' = true)
    (h : ∀ w', Hid (w'.heap[g]? = some (.cells cs.toArray t (0, 0))) → Hid (Mod [g] w w') → wpList P ops Q rest (a.put o.dst (.int .i64 n)) w') : wpList P ops Q (o :: rest) a w := by
  by_cases h0 : n = 0
  · subst h0
    refine wpList_copy_nothing hgd d s dT sT ho elem hu hsz _ sp 0 dCap 0 sCap hd hs (by simp) ?_
    refine h w (show _ = _ from ?_) (show Mod [g] w w from Mod.refl _ _)
    rw [hg]
    have e1 : cur = #[] := Array.eq_empty_of_size_eq_zero hcur
    have e2 : cs = [] := List.eq_nil_of_length_eq_zero hn
    rw [e1, e2]
  · rcases hsl with e | ⟨b, off, rfl, _, hc⟩
    · rw [e] at hn; simp at hn; omega
    · have key := wpList_copy_own (P := P) (w := w) (ops := ops) (rest := rest) (o := o) (a := a) (Q := Q) hgd d s dT sT ho elem hu hsz g 0 n dCap ⟨b, off, none⟩ n sCap hd hs cur t hg cs (by simp [hn])
        (by
          intro j v hj
          have hjl := (List.getElem?_eq_some_iff.1 hj).1
          have hadd : (⟨b, off, none⟩ : Addr).add j = ⟨b, off + j, none⟩ := by unfold Addr.add; split <;> simp_all
          rw [hadd, hc j hjl, ← List.getElem?_eq_getElem hjl, hj]) (by simp; omega) h1
      refine key ?_
      have e3 : (cur.toList.take 0 ++ (cs ++ cur.toList.drop (0 + cs.length))).toArray = cs.toArray := by
        rw [List.take_zero, List.nil_append, List.drop_of_length_le (by simp; omega), List.append_nil]
      rw [e3]
      have e4 : (goInt cs.length : Value) = .int .i64 n := by rw [hn]; rfl
      rw [e4]
      exact h _ (show _ = _ from setRow_heap w g cur _ t _ hg) (show Mod [g] w _ from mod_setRow _)
theorem zeros_int (n : Nat) : ((List.replicate n ((Value.int .i64 0).cells.toList)).flatten).toArray = ((List.replicate n (0 : Int)).map (Value.int .i64)).toArray := by
  congr 1
  induction n with
  | zero => rfl
  | succ n ih => rw [List.replicate_succ, List.flatten_cons, ih, List.replicate_succ, List.map_cons]; rfl
theorem infoI0 : (Try.prog.info? 3).map (fun i => (i.zero, i.size, i.bytes)) = some (some (.int .i64 0), 1, 8) := by kernel_rfl
theorem make_ints (n : Nat) (h : n ≤ 65536) (W : World) : (Instr.makeSlice 63 (.int .i64 (n : Int)) (.int .i64 (n : Int))).run Try.prog W = .ok (.slice (some ⟨W.heap.size, 0, none⟩) n n) (W.alloc (.cells ((List.replicate n (0 : Int)).map (Value.int .i64)).toArray 3)) := by
  rw [run_make_rows (P := Try.prog) 63 3 (.int .i64 0) 1 8 Try.underlying63 infoI0 rfl .i64 .i64 n (by omega) (by omega) W, zeros_int]
end Go.Proofs.Ytfdcojhgpfmloaa
