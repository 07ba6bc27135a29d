/- Walks of the program's texts: the first word, the lines, the words, the text. -/
import Derived.Test.YtcfdphfochfeoaaDoorLi2
import Derived.Test.YtcfdphfochfeoaaDoorShelf
import Derived.Test.YtcfdphfochfeoaaDoorHeap
namespace Go.Proofs.YtcfdphfochfeoaaDoor.Li
open Go.RowKit Go.Shelf

theorem enters79 : ∀ args w, (callFunc 79 args).run Tryd.prog w = .ok (.enter 79 args) w := enters_of Tryd.func79 (by kernel_rfl) rfl
theorem pred79 (w : World) : PredAt Tryd.prog 79 #[] encR nbR w := fun W x _ => by
  refine (blank_any x W).mono ?_
  rintro e w' ⟨h1, h2⟩
  exact ⟨h1, 0, h2⟩
theorem trim_any (s : ByteArray) (w : World) : Calls Tryd.prog 78 #[.string s, .func (.func 79) #[] #[]] w fun e w' => e = .returned (vS ((L s).dropWhile nb)) ∧ Below w.heap.size w w' := by
  have := Tryd.strings_TrimLeftFunc 79 #[] enters79 nbR s w (pred79 w)
  rw [trimLeft_L] at this
  exact this
theorem indexb_any (t : List UInt8) (w : World) : Calls Tryd.prog 80 #[vS t, .func (.func 79) #[] #[]] w fun e w' => e = .returned (.int .i64 (if t.dropWhile (fun c => !nb c) = [] then -1 else ((t.takeWhile fun c => !nb c).length : Int))) ∧ Below w.heap.size w w' := by
  have := Tryd.strings_IndexFunc 79 #[] enters79 nbR (B t) w (pred79 w)
  rw [index_L] at this
  exact this
theorem fields_any (s : ByteArray) (w : World) (hs : s.size ≤ 4096) : Calls Tryd.prog 84 #[.string s, .func (.func 79) #[] #[]] w fun e w' => ∃ v, e = .returned v ∧ w'.ownsRow w.heap.size 9 1 v (words (L s)).length ((words (L s)).map vS) ∧ Below w.heap.size w w' := by
  have := Tryd.strings_FieldsFunc 79 #[] enters79 nbR s w (by omega) (pred79 w)
  rw [fields_L, List.length_map, List.map_map] at this
  refine this.mono ?_
  rintro e w' ⟨g, h1, _, h2, h3⟩
  exact ⟨_, h1, h2, h3⟩
theorem words_any (s : ByteArray) (w : World) (hs : s.size ≤ 4096) : Calls Tryd.prog 23 #[.string s] w fun e w' => ∃ v, e = .returned v ∧ w'.ownsRow w.heap.size 9 1 v (words (L s)).length ((words (L s)).map vS) ∧ Below w.heap.size w w' := by
  have h := Lib.hid (fields_any s w hs)
  go_enter Tryd.func23, Tryd.ntmps23
  go_wp2_with fail
  refine h.out.mono ?_
  rintro e w1 ⟨v, rfl, h1, h2⟩
  go_wp2_with fail
  go_ret
  exact ⟨v, rfl, h1, h2⟩
set_option maxRecDepth 100000 in
set_option maxHeartbeats 1000000 in
theorem head_any (s : ByteArray) (w : World) (hs : s.size ≤ 4096) : Calls Tryd.prog 18 #[.string s] w fun e w' => e = .returned (.tuple #[vS (headW (L s)), vS (headR (L s))]) ∧ Below w.heap.size w w' := by
  have h1 := Lib.hid (trim_any s w)
  have hlen : ((L s).dropWhile nb).length ≤ 4096 := by have := len_split nb (L s); rw [← size_L] at this; omega
  unfold headW headR
  generalize (L s).dropWhile nb = t at *
  have h2 := Lib.hid (indexb_any t)
  have hq := len_split (fun c => !nb c) t
  have hsB := size_B t
  by_cases hd : t.dropWhile (fun c => !nb c) = []
  · have h2' : Hid (∀ W, Calls Tryd.prog 80 #[vS t, .func (.func 79) #[] #[]] W fun e w' => e = .returned (.int .i64 (-1)) ∧ Below W.heap.size W w') := Lib.hid (by
      intro W
      have := h2.out W
      rw [if_pos hd] at this
      exact this)
    have he : t.takeWhile (fun c => !nb c) = t := by
      have := List.takeWhile_append_dropWhile (p := fun c => !nb c) (l := t)
      rw [hd, List.append_nil] at this
      exact this
    rw [hd, he]
    clear h2 hd he hq hsB
    go_enter Tryd.func18, Tryd.ntmps18
    go_wp2_with fail
    refine h1.out.mono ?_
    rintro e w1 ⟨rfl, hb1⟩
    go_wp2_with fail
    refine (h2'.out _).mono ?_
    rintro e w2 ⟨rfl, hb2⟩
    go_wp2_with fail
    go_ret2
    exact ⟨rfl, hb1.trans (hb2.mono hb1.size)⟩
  · obtain ⟨k, hk⟩ : ∃ k, (t.takeWhile fun c => !nb c).length = k := ⟨_, rfl⟩
    have h2' : Hid (∀ W, Calls Tryd.prog 80 #[vS t, .func (.func 79) #[] #[]] W fun e w' => e = .returned (.int .i64 (k : Int)) ∧ Below W.heap.size W w') := Lib.hid (by
      intro W
      have := h2.out W
      rw [if_neg hd, hk] at this
      exact this)
    have e1 := Lib.hid (show (B t).extract 0 k = B (t.takeWhile fun c => !nb c) by
      rw [ext_B]
      congr 1
      rw [← hk, List.drop_zero, Nat.sub_zero]
      exact take_take_len _ t)
    have e2 := Lib.hid (show (B t).extract k (B t).size = B (t.dropWhile fun c => !nb c) by
      rw [ext_end]
      congr 1
      rw [← hk]
      exact drop_take_len _ t)
    have i1 : ¬ (k : Int) < 0 := by omega
    have i2 : k ≤ (B t).size := by omega
    have i3 : (k : Int) ≤ ((B t).size : Int) := by omega
    have i4 : (B t).size ≤ 4096 := by omega
    clear h2 hd hq hsB hk
    generalize (t.takeWhile fun c => !nb c) = x at *
    generalize (t.dropWhile fun c => !nb c) = y at *
    go_enter Tryd.func18, Tryd.ntmps18
    go_wp2_with fail
    refine h1.out.mono ?_
    rintro e w1 ⟨rfl, hb1⟩
    go_wp2_with fail
    refine (h2'.out _).mono ?_
    rintro e w2 ⟨rfl, hb2⟩
    go_wp2_with fail
    go_quiet (fail)
    go_wp2_with fail
    go_ret2
    refine ⟨?_, below_drewN (hb1.trans (hb2.mono hb1.size)) _⟩
    show _ = Ending.returned (.tuple #[.string (B x), .string (B y)])
    rw [← e1.out, ← e2.out]; rfl
theorem cut_len (c : UInt8) (l : List UInt8) : ∀ cur, (cut c cur l).length = Lib.count l [c] + 1 := by
  induction l with
  | nil => intro cur; rfl
  | cons b t ih =>
    intro cur
    unfold cut
    by_cases h : b = c
    · subst h
      rw [if_pos rfl, List.length_cons, ih, Lib.count_cons_eq]; omega
    · rw [if_neg h, ih, Lib.count_cons_ne _ _ _ h]
/-- Split at a byte. -/
theorem split_any (t : List UInt8) (c : UInt8) (w : World) (hs : t.length ≤ 4096) (m : Int) (hm : w.cell? ⟨0, 0, none⟩ = some (.int .i64 m)) :
    Calls Tryd.prog 82 #[vS t, .string ⟨#[c]⟩] w fun e w' => e = .returned (.slice (some ⟨w.heap.size, 0, none⟩) (cut c [] t).length (cut c [] t).length) ∧ w' = w.alloc (.cells (((cut c [] t).map vS).toArray) 9) := by
  have h2 := Tryd.strings_Split (B t) ⟨#[c]⟩ m w (by rw [size_B]; omega) hm (by show 1 ≤ 1; omega)
  have h3 := split_L (B t) c
  rw [L_B] at h3
  have h4 : Lib.countB (B t) (B [c]) + 1 = (cut c [] t).length := (cut_len c t []).symm
  refine h2.mono ?_
  rintro e w' ⟨rfl, rfl⟩
  refine ⟨?_, ?_⟩
  · show Ending.returned (Value.slice _ (Lib.countB (B t) (B [c]) + 1) (Lib.countB (B t) (B [c]) + 1)) = _
    rw [h4]
  · show w.alloc (.cells ((List.map Value.string (Lib.splitB (B [c]) 0 (Lib.countB (B t) (B [c])) (B t))).toArray) _) = _
    rw [h3, List.map_map]
    rfl
theorem linesL_any (l : List UInt8) (w : World) (hs : l.length ≤ 4096) (m : Int) (hm : w.cell? ⟨0, 0, none⟩ = some (.int .i64 m)) : Calls Tryd.prog 21 #[vS l] w fun e w' => ∃ v, e = .returned v ∧ w'.ownsRow w.heap.size 9 1 v (lines l).length ((lines l).map vS) ∧ Below w.heap.size w w' := by
  by_cases h0 : l = []
  · subst h0
    go_enter Tryd.func21, Tryd.ntmps21
    go_wp2_with fail
    go_ret
    exact ⟨_, rfl, World.ownsRow_nil _ _ _ _, Below.refl _ _⟩
  · have h1 := Lib.hid (Tryd.strings_TrimSuffix (B l) ⟨#[10]⟩ w (by rw [size_B]; omega))
    have hl : (Lib.trimSuffix l [10]).length ≤ 4096 := by
      unfold Lib.trimSuffix
      split
      · rw [List.length_take]; omega
      · omega
    obtain ⟨t, ht⟩ : ∃ t, Lib.trimSuffix l [10] = t := ⟨_, rfl⟩
    have h1' : Hid (Calls Tryd.prog 83 #[vS l, .string ⟨#[10]⟩] w fun e w' => e = .returned (vS t) ∧ w' = w) := Lib.hid (by
      rw [← ht]; exact h1.out)
    have hlin := lines_cut l h0
    rw [ht] at hlin hl
    have h2 := split_any t 10 w hl m hm
    rw [hlin] at h2
    have hll : (lines l).length ≤ 4097 := by
      rw [← hlin, cut_len]
      have : Lib.count t [10] + 1 ≤ t.length + 1 := by
        rw [← cut_len 10 t []]
        have key : ∀ (t cur : List UInt8), (cut 10 cur t).length ≤ t.length + 1 := by
          intro t
          induction t with
          | nil => intro cur; simp [cut]
          | cons b r ih => intro cur; unfold cut; split <;> simp <;> first | exact ih _ | (have := ih (cur ++ [b]); omega)
        exact key t []
      omega
    have H2 := Lib.hid h2
    have qe : l.isEmpty = false := by cases l with
      | nil => exact absurd rfl h0
      | cons _ _ => rfl
    clear h2 h1 hlin ht hl h0
    generalize lines l = ll at *
    go_enter Tryd.func21, Tryd.ntmps21
    go_wp2_with fail
    refine h1'.out.mono ?_
    rintro e w1 ⟨rfl, hw1⟩
    obtain rfl := hw1.symm
    go_wp2_with fail
    refine H2.out.mono ?_
    rintro e w1 ⟨rfl, rfl⟩
    go_wp2_with fail
    go_ret
    refine ⟨_, rfl, ?_, below_new _ _⟩
    have := World.ownsRow_lit (base := w.heap.size) (e := 9) (size := 1) w ((ll.map vS).toArray) ll.length (Nat.le_refl _) (by simp only [maxLen]; omega) (by simp)
    exact this

theorem lines_any (s : ByteArray) (w : World) (hs : s.size ≤ 4096) (m : Int) (hm : w.cell? ⟨0, 0, none⟩ = some (.int .i64 m)) : Calls Tryd.prog 21 #[.string s] w fun e w' => ∃ v, e = .returned v ∧ w'.ownsRow w.heap.size 9 1 v (lines (L s)).length ((lines (L s)).map vS) ∧ Below w.heap.size w w' := by
  have := linesL_any (L s) w (by rw [← size_L]; exact hs) m hm
  rw [vS, B_L] at this
  exact this
theorem each_any (x cur : List UInt8) (w : World) (g : Nat) (hg : w.heap[g]? = some (.cells #[vS cur] 9 (0, 0))) (hl : cur.length + x.length + 1 ≤ 65536) : Calls Tryd.prog 85 #[vS x, .pointer (some ⟨g, 0, none⟩)] w fun e w' => e = .returned (.tuple #[]) ∧ w' = w.setCell ⟨g, 0, none⟩ (vS (cur ++ x ++ [10])) := by
  have hn1 : ¬ 9223372036854775807 < cur.length + (x.length + 1) := by omega
  have hn2 : ¬ 9223372036854775807 < x.length + 1 := by omega
  have HE := Lib.hid (show B cur ++ (B x ++ B [10]) = B (cur ++ x ++ [10]) by rw [app_B, app_B, List.append_assoc])
  have g0 := blk_cell hg 0 (by simp)
  have f0 := blk_free hg 0
  simp only [List.getElem_toArray, List.getElem_cons_zero] at g0
  go_enter Tryd.func85, Tryd.ntmps85
  go_wp2_with fail
  go_end0
  exact ⟨rfl, by show _ = w.setCell _ (Value.string (B (cur ++ x ++ [10]))); rw [← HE.out]⟩
def TxJ (w0 : World) (g : Nat) (A : Option Addr) (cap : Nat) (ls : List (List UInt8)) (i : Value) (wr : World) : Prop :=
  ∃ k : Nat, k ≤ ls.length ∧ i = .int .i64 k ∧ wr.heap[g]? = some (.cells #[vS (textL (ls.take k))] 9 (0, 0)) ∧ Below g w0 wr
set_option maxRecDepth 100000 in
set_option maxHeartbeats 1000000 in
theorem text_any (ls : List (List UInt8)) (A : Option Addr) (cap : Nat) (w : World) (hm : ls.length ≤ 4096) (hz : (textL ls).length ≤ 65536) (hs : Sl w w.heap.size A (ls.map vS)) :
    Calls Tryd.prog 25 #[.slice A ls.length cap] w fun e w' => e = .returned (vS (textL ls)) ∧ Below w.heap.size w w' := by
  have hmf : ∀ (fn : Fn) (first cap : Array Value) (w : World), (Instr.makeFunc fn first cap).run Tryd.prog w = .ok (.func fn first cap) w := fun _ _ _ _ => rfl
  obtain ⟨g, hg⟩ : ∃ g, w.heap.size = g := ⟨_, rfl⟩
  go_enter Tryd.func25, Tryd.ntmps25
  go_wp2_with fail
  have hblk : (w.alloc (.cells #[vS []] 9)).heap[g]? = some (.cells #[vS []] 9 (0, 0)) := by rw [← hg]; exact heap_alloc_new w _
  go_loopw [10] (TxJ w g A cap ls) (fun i _ => ls.length - (intOf i).toNat)
  case atStart => exact ⟨0, Nat.zero_le _, rfl, by first | exact hblk | exact blk_set hblk 0 _, by rw [← hg]; exact below_new _ _⟩
  case round =>
    obtain ⟨k, hk, rfl, hblk2, hb⟩ := hrel
    by_cases hlt : k < ls.length
    · obtain ⟨b, off, rfl, hbb, hcell⟩ := sl_str hs hlt
      have h0 := (hb.cell (p := ⟨b, off + k, none⟩) (by rw [← hg]; exact hbb)).trans (hcell k hlt)
      have HT := Lib.hid (textL_snoc ls k hlt)
      have HL := Lib.hid (textL_le ls (k + 1))
      clear hcell hs
      generalize ls[k] = x at *
      have hl2 : (textL (ls.take k)).length + x.length + 1 ≤ 65536 := by
        have := HL.out
        rw [HT.out] at this
        simp only [List.length_append, List.length_cons, List.length_nil] at this
        omega
      have HB := Lib.hid (each_any x _ _ g hblk2 hl2)
      have HK := Lib.hid hblk2
      have HBL := Lib.hid hb
      have i1 : (k : Int) < (ls.length : Int) := by omega
      clear hblk2 hb
      go_wp2_with fail
      refine HB.out.mono ?_
      rintro e w2 ⟨rfl, rfl⟩
      go_wp2_with fail
      go_roundw
      case rel => exact ⟨k + 1, by omega, by go_num, by rw [HT.out, List.append_assoc]; exact blk_set HK.out 0 _, HBL.out.setCell (Nat.le_refl _) _⟩
      case measure => simp [intOf]; omega
    · obtain rfl : k = ls.length := by omega
      rw [List.take_length] at hblk2
      have g0 := blk_cell hblk2 0 (by simp)
      simp only [List.getElem_toArray, List.getElem_cons_zero] at g0
      go_wp2_with fail
      go_ret
      exact ⟨rfl, by rw [hg]; exact hb⟩
end Go.Proofs.YtcfdphfochfeoaaDoor.Li
