/- Merged texts: Cm15, Cm16. -/
import Derived.Test.YtfnmggmgdmokcaaGreatCt26
set_option linter.unusedVariables false
/- The law's made: a lock of any two kinds, of a topology that may be. -/
namespace Go.Proofs.YtfnmggmgdmokcaaGreat.Cm
open Go.RowKit Go.Proofs.YtfnmggmgdmokcaaGreat.Tp Go.Proofs.YtfnmggmgdmokcaaGreat.Ara Go.Proofs.YtfnmggmgdmokcaaGreat.Lok Go.Proofs.YtfnmggmgdmokcaaGreat.Fl Go.Proofs.YtfnmggmgdmokcaaGreat.Co

theorem size_le {kind par : Int} {n : Nat} (hM : mayK kind n par) (hp : par ≤ 32) : sizeK kind n par ≤ 65 := by
  obtain ⟨_, ⟨_, n2⟩, _, _⟩ := hM
  unfold sizeK
  repeat' split
  all_goals omega
theorem nw_ok {p t : List Int} (hck : chk p t = 0) {kg kl par bud : Int} (hg : 1 ≤ kg ∧ kg ≤ 5) (hl : 1 ≤ kl ∧ kl ≤ 5) (hp : 1 ≤ par ∧ par ≤ 32) (hb : 0 ≤ bud) : (nwOf p t kg kl par bud).Ok := by
  obtain ⟨l1, l2, l3, l4⟩ := chk_len hck
  have hpos : 1 ≤ (lvs p).length := List.length_pos_iff.2 (lvs_ne (chk_ok hck).2.1 l1)
  have hLL := lvs_len p
  refine ⟨⟨hg, ⟨hpos, by show (lvs p).length ≤ 32; omega⟩, fun _ => ⟨hp.1, by show par ≤ 1024; omega⟩, fun _ => hp⟩, fun n _ => ⟨hl, ⟨?_, ?_⟩, fun _ => ⟨hp.1, by show par ≤ 1024; omega⟩, fun _ => hp⟩, fun k hk => ?_, fun a b ha hb h1 h2 => nd_inj hck ha hb h1 h2, hb⟩
  · show 1 ≤ max 1 (mtI p t n)
    omega
  · show max 1 (mtI p t n) ≤ 32
    have := mt_le p t n
    omega
  · obtain ⟨h1, h2⟩ := nd_lt hck hk
    refine ⟨h1, ?_⟩
    show slI t k < max 1 (mtI p t (ndI p t k))
    omega
theorem nw_room {p t : List Int} {kg kl par bud : Int} (O : (nwOf p t kg kl par bud).Ok) (hp : par ≤ 32) (t0 : Nat) : ∀ k, k ≤ (lvs p).length → (nwOf p t kg kl par bud).tN t0 k ≤ t0 + 65 + 66 * k
  | 0, _ => by
    have := size_le O.g hp
    show t0 + sizeK kg (lvs p).length par ≤ _
    have h2 : sizeK kg (lvs p).length par ≤ 65 := this
    omega
  | k + 1, hk => by
    have h1 := nw_room O hp t0 k (by omega)
    have h2 : sizeK kl (max 1 (mtI p t k)) par ≤ 65 := size_le (O.l k hk) hp
    show (nwOf p t kg kl par bud).tN t0 k + sizeK kl (max 1 (mtI p t k)) par + 1 ≤ _
    omega
theorem nw_fits {p t : List Int} (hck : chk p t = 0) {kg kl par bud : Int} (O : (nwOf p t kg kl par bud).Ok) (hp : par ≤ 32) : (nwOf p t kg kl par bud).tN 0 (lvs p).length ≤ 4096 := by
  have h1 := nw_room O hp 0 _ (Nat.le_refl _)
  obtain ⟨l1, l2, l3, l4⟩ := chk_len hck
  have hLL := lvs_len p
  omega
theorem zeros_at (n k : Nat) : (zerosW n).getD k 0 = 0 := by
  unfold zerosW
  rw [List.getD_eq_getElem?_getD, List.getElem?_replicate]
  split <;> rfl
def kgOf (n : Int) (fifo : Bool) : Int := if fifo then 2 + n % 4 else 1 + n % 5
def mwOf (p t : List Int) (n0 n1 n2 : Int) (fifo : Bool) : Nw := nwOf p t (kgOf n0 fifo) (kgOf n1 fifo) (1 + n2 / 4 % 4) (n2 % 4)
def mpOf (n0 n1 n2 : Int) (fifo : Bool) : Value := .agg #[.int .i64 (kgOf n0 fifo), .int .i64 (kgOf n1 fifo), .int .i64 (1 + n2 / 4 % 4), .int .i64 (n2 % 4)]
def MadeAft (p t : List Int) (n0 n1 n2 : Int) (fifo : Bool) (w : World) (e : Ending) (w' : World) : Prop :=
  ∃ cd : Cd, e = .returned (.tuple #[.pointer (some ⟨cd.ga, 0, none⟩), .pointer (some ⟨cd.gl, 0, none⟩), mpOf n0 n1 n2 fifo, .bool true]) ∧ CoAt w' cd ((mwOf p t n0 n1 n2 fifo).pm (Ar.fresh 4096)) ((mwOf p t n0 n1 n2 fifo).st (Ar.fresh 4096)) ∧ (∀ x, x < w.heap.size → cd.col x = 0) ∧ Below w.heap.size w w'
def MdW (w : World) (rb pb : Nat) (x y : Value) (k0 k1 k2 k3 : Int) (W : World) : Prop :=
  Bx w W x y ∧ W.heap[rb]? = some (.cells #[.int .i64 0, .int .i64 0, .int .i64 0, .int .i64 0] 30 (0, 0)) ∧ W.heap[pb]? = some (.cells #[.int .i64 k0, .int .i64 k1, .int .i64 k2, .int .i64 k3] 30 (0, 0))
theorem MdW.made (w : World) (x y : Value) (k0 k1 k2 k3 : Int) (arr : Array Value) (T : TypeId) : MdW w (w.heap.size + 1 + 1) (w.heap.size + 1 + 1 + 1) x y k0 k1 k2 k3 ((((w.alloc (.cells #[x, y] 24)).alloc (.cells arr T)).alloc (.cells #[.int .i64 0, .int .i64 0, .int .i64 0, .int .i64 0] 30)).alloc (.cells #[.int .i64 k0, .int .i64 k1, .int .i64 k2, .int .i64 k3] 30)) := by
  have h1 := Bx.made w x y 24
  have h2 := ((h1.step (below_new _ (.cells arr T))).step (below_new _ (.cells #[.int .i64 0, .int .i64 0, .int .i64 0, .int .i64 0] 30))).step (below_new _ (.cells #[.int .i64 k0, .int .i64 k1, .int .i64 k2, .int .i64 k3] 30))
  refine ⟨h2, ?_, ?_⟩
  · refine blk_alloc ?_ _
    have := blk_new ((w.alloc (.cells #[x, y] 24)).alloc (.cells arr T)) (.cells #[.int .i64 0, .int .i64 0, .int .i64 0, .int .i64 0] 30)
    simpa using this
  · have := blk_new (((w.alloc (.cells #[x, y] 24)).alloc (.cells arr T)).alloc (.cells #[.int .i64 0, .int .i64 0, .int .i64 0, .int .i64 0] 30)) (.cells #[.int .i64 k0, .int .i64 k1, .int .i64 k2, .int .i64 k3] 30)
    simpa using this
theorem MdW.step {w W V : World} {rb pb : Nat} {x y : Value} {k0 k1 k2 k3 : Int} (h : MdW w rb pb x y k0 k1 k2 k3 W) (b : Below W.heap.size W V) : MdW w rb pb x y k0 k1 k2 k3 V :=
  ⟨h.1.step b, (Mod.of_below (S := []) b).blk h.2.1 (by simp), (Mod.of_below (S := []) b).blk h.2.2 (by simp)⟩
section
variable (p t : List Int) (A B : Option Addr) (c d : Nat) (w : World) (hs : Sl w w.heap.size A (p.flatMap decI)) (ht : Sl w w.heap.size B (t.flatMap decI)) (n0 n1 n2 : Int) (h0 : 0 ≤ n0 ∧ n0 ≤ 255) (h1 : 0 ≤ n1 ∧ n1 ≤ 255) (h2 : 0 ≤ n2 ∧ n2 ≤ 255) (fifo : Bool)
include hs ht h0 h1 h2
set_option maxRecDepth 100000 in
theorem made_no (h : ¬ (chk p t = 0 ∧ t.length ≤ 8)) : Calls Tryz.prog 8 #[(.agg #[.slice A p.length c, .slice B t.length d]), .agg #[.int .u8 n0, .int .u8 n1, .int .u8 n2], .bool fifo] w fun e w' => e = .returned (.tuple #[.pointer none, .pointer none, mpOf n0 n1 n2 fifo, .bool false]) ∧ Below w.heap.size w w' := by
  have hsm := fun W h1 h2 => Rn.small_any p t A B c d W h1 h2 8
  rw [show (decide (chk p t = 0) && decide ((t.length : Int) ≤ 8)) = false by
    rcases Classical.em (chk p t = 0) with h9 | h9
    · rw [decide_eq_false (show ¬ (t.length : Int) ≤ 8 by omega), Bool.and_false]
    · rw [decide_eq_false h9, Bool.false_and]] at hsm
  have HSM := Lib.hid hsm
  have HS := Lib.hid hs
  have HT := Lib.hid ht
  clear hs ht hsm h
  cases fifo with
  | true =>
    have hmp : mpOf n0 n1 n2 true = .agg #[.int .i64 (2 + n0 % 4), .int .i64 (2 + n1 % 4), .int .i64 (1 + n2 / 4 % 4), .int .i64 (n2 % 4)] := by simp [mpOf, kgOf]
    have hmw : mwOf p t n0 n1 n2 true = nwOf p t (2 + n0 % 4) (2 + n1 % 4) (1 + n2 / 4 % 4) (n2 % 4) := by simp [mwOf, kgOf]
    have HMP := Lib.hid hmp
    have HMW := Lib.hid hmw
    clear hmp hmw
    go_enter Tryz.func8, Tryz.ntmps8
    go_upto_region 5 with fail
    have HX := Lib.hid (MdW.made w (.slice A p.length c) (.slice B t.length d) (2 + n0 % 4) (2 + n1 % 4) (1 + n2 / 4 % 4) (n2 % 4) #[.int .u8 n0, .int .u8 n1, .int .u8 n2] 25)
    generalize (((w.alloc (.cells #[.slice A p.length c, .slice B t.length d] 24)).alloc (.cells #[.int .u8 n0, .int .u8 n1, .int .u8 n2] 25)).alloc (.cells #[.int .i64 0, .int .i64 0, .int .i64 0, .int .i64 0] 30)).alloc (.cells #[.int .i64 (2 + n0 % 4), .int .i64 (2 + n1 % 4), .int .i64 (1 + n2 / 4 % 4), .int .i64 (n2 % 4)] 30) = W0 at *
    generalize hpb : w.heap.size + 1 + 1 + 1 = pb at *
    generalize hrb : w.heap.size + 1 + 1 = rb at *
    have u1 : w.heap.size + 2 = rb := hrb
    have HU := Lib.hid (And.intro u1 (show rb + 1 = pb by omega))
    clear hpb hrb u1
    generalize hk0 : (2 + n0 % 4) = k0 at *
    generalize hk1 : (2 + n1 % 4) = k1 at *
    generalize hk2 : (1 + n2 / 4 % 4) = k2 at *
    generalize hk3 : (n2 % 4) = k3 at *
    clear hk0 hk1 hk2 hk3
    have c0 := HX.out.1.2.2.1
    have c1 := HX.out.1.2.2.2
    go_wp2_with fail
    refine (HSM.out _ (HX.out.1.sl HS.out) (HX.out.1.sl HT.out)).mono ?_
    rintro e W1 ⟨rfl, b1⟩
    have HX1 := Lib.hid (HX.out.step b1)
    clear c0 c1 b1 HX
    go_upto_region 6 with fail
    have HXd := Lib.hid (HX1.out.step (show Below W1.heap.size W1 W1.drew from Below.drew (Below.refl _ _)))
    have SW0 : (W1.drew).cell? ⟨pb, 0, none⟩ = some (.int .i64 k0) ∧ (W1.drew).cell? ⟨pb, 1, none⟩ = some (.int .i64 k1) ∧ (W1.drew).cell? ⟨pb, 2, none⟩ = some (.int .i64 k2) ∧ (W1.drew).cell? ⟨pb, 3, none⟩ = some (.int .i64 k3) := ⟨blk_cell HXd.out.2.2 0 (by simp), blk_cell HXd.out.2.2 1 (by simp), blk_cell HXd.out.2.2 2 (by simp), blk_cell HXd.out.2.2 3 (by simp)⟩
    refine wp_region_held_drew (S := (fun V => V.cell? ⟨pb, 0, none⟩ = some (.int .i64 k0) ∧ V.cell? ⟨pb, 1, none⟩ = some (.int .i64 k1) ∧ V.cell? ⟨pb, 2, none⟩ = some (.int .i64 k2) ∧ V.cell? ⟨pb, 3, none⟩ = some (.int .i64 k3))) (by kernel_rfl) SW0 (fun hHeld => ?_)
    clear HX1
    generalize W1.drew = X0 at *
    refine take_to 0 (some 51) (v := ?_) rfl rfl (by kernel_rfl) (by kernel_rfl) (by kernel_rfl) (fun _ _ _ h => h) (Or.inl ⟨by rfl, ?_⟩) (by first | trivial | assumption) ?_
    rotate_left
    focus (intro w hSw; (try dsimp only at hSw); go_simp; (try with_reducible rfl))
    simp only [Act.put, List.setIfInBounds_toArray, List.set_cons_zero, List.set_cons_succ]
    refine take_to 1 (some 6) (v := ?_) rfl rfl (by kernel_rfl) (by kernel_rfl) (by kernel_rfl) (fun _ _ _ h => h) (Or.inl ⟨by rfl, ?_⟩) (by first | trivial | assumption) ?_
    rotate_left
    focus (intro w hSw; (try dsimp only at hSw); go_simp; (try with_reducible rfl))
    simp only [Act.put, List.setIfInBounds_toArray, List.set_cons_zero, List.set_cons_succ]
    refine take_to 2 (some 7) (v := ?_) rfl rfl (by kernel_rfl) (by kernel_rfl) (by kernel_rfl) (fun _ _ _ h => h) (Or.inl ⟨by rfl, ?_⟩) (by first | trivial | assumption) ?_
    rotate_left
    focus (intro w hSw; (try dsimp only at hSw); go_simp; (try with_reducible rfl))
    simp only [Act.put, List.setIfInBounds_toArray, List.set_cons_zero, List.set_cons_succ]
    have hR := HXd.out.2.1
    have b0 := blk_cell hR 0 (by simp)
    have b1 := blk_cell hR 1 (by simp)
    have b2 := blk_cell hR 2 (by simp)
    have b3 := blk_cell hR 3 (by simp)
    have f0 := blk_free hR 0
    have f1 := blk_free hR 1
    have f2 := blk_free hR 2
    have f3 := blk_free hR 3
    simp only [List.getElem_toArray, List.getElem_cons_zero, List.getElem_cons_succ] at b0 b1 b2 b3
    have B3 := blk_set (blk_set (blk_set (blk_set hR 0 (.int .i64 k0)) 1 (.int .i64 k1)) 2 (.int .i64 k2)) 3 (.int .i64 k3)
    have r0 := blk_cell B3 0 (by simp)
    have r1 := blk_cell B3 1 (by simp)
    have r2 := blk_cell B3 2 (by simp)
    have r3 := blk_cell B3 3 (by simp)
    simp at r0 r1 r2 r3
    have hu9 := HU.out
    have hm9 : Mod [rb] X0 ((((X0.setCell ⟨rb, 0, none⟩ (.int .i64 k0)).setCell ⟨rb, 1, none⟩ (.int .i64 k1)).setCell ⟨rb, 2, none⟩ (.int .i64 k2)).setCell ⟨rb, 3, none⟩ (.int .i64 k3)) := ((((Mod.refl _ _).setCell (by simp) _).setCell (by simp) _).setCell (by simp) _).setCell (by simp) _
    have hp9 := hm9.blk HXd.out.2.2 (by simp; omega)
    have SW1 : ((((X0.setCell ⟨rb, 0, none⟩ (.int .i64 k0)).setCell ⟨rb, 1, none⟩ (.int .i64 k1)).setCell ⟨rb, 2, none⟩ (.int .i64 k2)).setCell ⟨rb, 3, none⟩ (.int .i64 k3)).cell? ⟨pb, 0, none⟩ = some (.int .i64 k0) ∧ ((((X0.setCell ⟨rb, 0, none⟩ (.int .i64 k0)).setCell ⟨rb, 1, none⟩ (.int .i64 k1)).setCell ⟨rb, 2, none⟩ (.int .i64 k2)).setCell ⟨rb, 3, none⟩ (.int .i64 k3)).cell? ⟨pb, 1, none⟩ = some (.int .i64 k1) ∧ ((((X0.setCell ⟨rb, 0, none⟩ (.int .i64 k0)).setCell ⟨rb, 1, none⟩ (.int .i64 k1)).setCell ⟨rb, 2, none⟩ (.int .i64 k2)).setCell ⟨rb, 3, none⟩ (.int .i64 k3)).cell? ⟨pb, 2, none⟩ = some (.int .i64 k2) ∧ ((((X0.setCell ⟨rb, 0, none⟩ (.int .i64 k0)).setCell ⟨rb, 1, none⟩ (.int .i64 k1)).setCell ⟨rb, 2, none⟩ (.int .i64 k2)).setCell ⟨rb, 3, none⟩ (.int .i64 k3)).cell? ⟨pb, 3, none⟩ = some (.int .i64 k3) := ⟨blk_cell hp9 0 (by simp), blk_cell hp9 1 (by simp), blk_cell hp9 2 (by simp), blk_cell hp9 3 (by simp)⟩
    have HM9 := Lib.hid hm9
    clear hR B3 hm9 hp9 hu9
    refine wpAnyH_ready (rs := [3]) (by kernel_rfl) (by simp) ?_
    refine AllReadyH.cons rfl (fun K hK => ?_) AllReadyH.nil
    go_simp
    refine hK.out _ _ SW1 (fun hHeld => ?_)
    generalize (((X0.setCell ⟨rb, 0, none⟩ (.int .i64 k0)).setCell ⟨rb, 1, none⟩ (.int .i64 k1)).setCell ⟨rb, 2, none⟩ (.int .i64 k2)).setCell ⟨rb, 3, none⟩ (.int .i64 k3) = X9 at *
    refine take_to 4 (some 9) (v := ?_) rfl rfl (by kernel_rfl) (by kernel_rfl) (by kernel_rfl) (fun _ _ _ h => h) (Or.inl ⟨by rfl, ?_⟩) (by first | trivial | assumption) ?_
    rotate_left
    focus (intro w hSw; (try dsimp only at hSw); go_simp; (try with_reducible rfl))
    simp only [Act.put, List.setIfInBounds_toArray, List.set_cons_zero, List.set_cons_succ]
    refine wpAnyH_done (by kernel_rfl) ?_ _
    have HB9 := Lib.hid (Mod.below_of HXd.out.1.1 HM9.out HXd.out.1.1.size (by have := HU.out; simp; omega))
    go_wp2_with fail
    (try simp only [Exit.inBlock, Exit.then])
    exact bodyPost_ret (v := .tuple #[.pointer none, .pointer none, .agg #[.int .i64 k0, .int .i64 k1, .int .i64 k2, .int .i64 k3], .bool false]) (by simp [results, Tryz.results8, go_sem, r0, r1, r2, r3]) rfl ⟨by rw [HMP.out], HB9.out⟩
  | false =>
    have hmp : mpOf n0 n1 n2 false = .agg #[.int .i64 (1 + n0 % 5), .int .i64 (1 + n1 % 5), .int .i64 (1 + n2 / 4 % 4), .int .i64 (n2 % 4)] := by simp [mpOf, kgOf]
    have hmw : mwOf p t n0 n1 n2 false = nwOf p t (1 + n0 % 5) (1 + n1 % 5) (1 + n2 / 4 % 4) (n2 % 4) := by simp [mwOf, kgOf]
    have HMP := Lib.hid hmp
    have HMW := Lib.hid hmw
    clear hmp hmw
    go_enter Tryz.func8, Tryz.ntmps8
    go_upto_region 5 with fail
    have HX := Lib.hid (MdW.made w (.slice A p.length c) (.slice B t.length d) (1 + n0 % 5) (1 + n1 % 5) (1 + n2 / 4 % 4) (n2 % 4) #[.int .u8 n0, .int .u8 n1, .int .u8 n2] 25)
    generalize (((w.alloc (.cells #[.slice A p.length c, .slice B t.length d] 24)).alloc (.cells #[.int .u8 n0, .int .u8 n1, .int .u8 n2] 25)).alloc (.cells #[.int .i64 0, .int .i64 0, .int .i64 0, .int .i64 0] 30)).alloc (.cells #[.int .i64 (1 + n0 % 5), .int .i64 (1 + n1 % 5), .int .i64 (1 + n2 / 4 % 4), .int .i64 (n2 % 4)] 30) = W0 at *
    generalize hpb : w.heap.size + 1 + 1 + 1 = pb at *
    generalize hrb : w.heap.size + 1 + 1 = rb at *
    have u1 : w.heap.size + 2 = rb := hrb
    have HU := Lib.hid (And.intro u1 (show rb + 1 = pb by omega))
    clear hpb hrb u1
    generalize hk0 : (1 + n0 % 5) = k0 at *
    generalize hk1 : (1 + n1 % 5) = k1 at *
    generalize hk2 : (1 + n2 / 4 % 4) = k2 at *
    generalize hk3 : (n2 % 4) = k3 at *
    clear hk0 hk1 hk2 hk3
    have c0 := HX.out.1.2.2.1
    have c1 := HX.out.1.2.2.2
    go_wp2_with fail
    refine (HSM.out _ (HX.out.1.sl HS.out) (HX.out.1.sl HT.out)).mono ?_
    rintro e W1 ⟨rfl, b1⟩
    have HX1 := Lib.hid (HX.out.step b1)
    clear c0 c1 b1 HX
    go_upto_region 6 with fail
    have HXd := Lib.hid (HX1.out.step (show Below W1.heap.size W1 W1.drew from Below.drew (Below.refl _ _)))
    have SW0 : (W1.drew).cell? ⟨pb, 0, none⟩ = some (.int .i64 k0) ∧ (W1.drew).cell? ⟨pb, 1, none⟩ = some (.int .i64 k1) ∧ (W1.drew).cell? ⟨pb, 2, none⟩ = some (.int .i64 k2) ∧ (W1.drew).cell? ⟨pb, 3, none⟩ = some (.int .i64 k3) := ⟨blk_cell HXd.out.2.2 0 (by simp), blk_cell HXd.out.2.2 1 (by simp), blk_cell HXd.out.2.2 2 (by simp), blk_cell HXd.out.2.2 3 (by simp)⟩
    refine wp_region_held_drew (S := (fun V => V.cell? ⟨pb, 0, none⟩ = some (.int .i64 k0) ∧ V.cell? ⟨pb, 1, none⟩ = some (.int .i64 k1) ∧ V.cell? ⟨pb, 2, none⟩ = some (.int .i64 k2) ∧ V.cell? ⟨pb, 3, none⟩ = some (.int .i64 k3))) (by kernel_rfl) SW0 (fun hHeld => ?_)
    clear HX1
    generalize W1.drew = X0 at *
    refine take_to 0 (some 51) (v := ?_) rfl rfl (by kernel_rfl) (by kernel_rfl) (by kernel_rfl) (fun _ _ _ h => h) (Or.inl ⟨by rfl, ?_⟩) (by first | trivial | assumption) ?_
    rotate_left
    focus (intro w hSw; (try dsimp only at hSw); go_simp; (try with_reducible rfl))
    simp only [Act.put, List.setIfInBounds_toArray, List.set_cons_zero, List.set_cons_succ]
    refine take_to 1 (some 6) (v := ?_) rfl rfl (by kernel_rfl) (by kernel_rfl) (by kernel_rfl) (fun _ _ _ h => h) (Or.inl ⟨by rfl, ?_⟩) (by first | trivial | assumption) ?_
    rotate_left
    focus (intro w hSw; (try dsimp only at hSw); go_simp; (try with_reducible rfl))
    simp only [Act.put, List.setIfInBounds_toArray, List.set_cons_zero, List.set_cons_succ]
    refine take_to 2 (some 7) (v := ?_) rfl rfl (by kernel_rfl) (by kernel_rfl) (by kernel_rfl) (fun _ _ _ h => h) (Or.inl ⟨by rfl, ?_⟩) (by first | trivial | assumption) ?_
    rotate_left
    focus (intro w hSw; (try dsimp only at hSw); go_simp; (try with_reducible rfl))
    simp only [Act.put, List.setIfInBounds_toArray, List.set_cons_zero, List.set_cons_succ]
    have hR := HXd.out.2.1
    have b0 := blk_cell hR 0 (by simp)
    have b1 := blk_cell hR 1 (by simp)
    have b2 := blk_cell hR 2 (by simp)
    have b3 := blk_cell hR 3 (by simp)
    have f0 := blk_free hR 0
    have f1 := blk_free hR 1
    have f2 := blk_free hR 2
    have f3 := blk_free hR 3
    simp only [List.getElem_toArray, List.getElem_cons_zero, List.getElem_cons_succ] at b0 b1 b2 b3
    have B3 := blk_set (blk_set (blk_set (blk_set hR 0 (.int .i64 k0)) 1 (.int .i64 k1)) 2 (.int .i64 k2)) 3 (.int .i64 k3)
    have r0 := blk_cell B3 0 (by simp)
    have r1 := blk_cell B3 1 (by simp)
    have r2 := blk_cell B3 2 (by simp)
    have r3 := blk_cell B3 3 (by simp)
    simp at r0 r1 r2 r3
    have hu9 := HU.out
    have hm9 : Mod [rb] X0 ((((X0.setCell ⟨rb, 0, none⟩ (.int .i64 k0)).setCell ⟨rb, 1, none⟩ (.int .i64 k1)).setCell ⟨rb, 2, none⟩ (.int .i64 k2)).setCell ⟨rb, 3, none⟩ (.int .i64 k3)) := ((((Mod.refl _ _).setCell (by simp) _).setCell (by simp) _).setCell (by simp) _).setCell (by simp) _
    have hp9 := hm9.blk HXd.out.2.2 (by simp; omega)
    have SW1 : ((((X0.setCell ⟨rb, 0, none⟩ (.int .i64 k0)).setCell ⟨rb, 1, none⟩ (.int .i64 k1)).setCell ⟨rb, 2, none⟩ (.int .i64 k2)).setCell ⟨rb, 3, none⟩ (.int .i64 k3)).cell? ⟨pb, 0, none⟩ = some (.int .i64 k0) ∧ ((((X0.setCell ⟨rb, 0, none⟩ (.int .i64 k0)).setCell ⟨rb, 1, none⟩ (.int .i64 k1)).setCell ⟨rb, 2, none⟩ (.int .i64 k2)).setCell ⟨rb, 3, none⟩ (.int .i64 k3)).cell? ⟨pb, 1, none⟩ = some (.int .i64 k1) ∧ ((((X0.setCell ⟨rb, 0, none⟩ (.int .i64 k0)).setCell ⟨rb, 1, none⟩ (.int .i64 k1)).setCell ⟨rb, 2, none⟩ (.int .i64 k2)).setCell ⟨rb, 3, none⟩ (.int .i64 k3)).cell? ⟨pb, 2, none⟩ = some (.int .i64 k2) ∧ ((((X0.setCell ⟨rb, 0, none⟩ (.int .i64 k0)).setCell ⟨rb, 1, none⟩ (.int .i64 k1)).setCell ⟨rb, 2, none⟩ (.int .i64 k2)).setCell ⟨rb, 3, none⟩ (.int .i64 k3)).cell? ⟨pb, 3, none⟩ = some (.int .i64 k3) := ⟨blk_cell hp9 0 (by simp), blk_cell hp9 1 (by simp), blk_cell hp9 2 (by simp), blk_cell hp9 3 (by simp)⟩
    have HM9 := Lib.hid hm9
    clear hR B3 hm9 hp9 hu9
    refine wpAnyH_ready (rs := [3]) (by kernel_rfl) (by simp) ?_
    refine AllReadyH.cons rfl (fun K hK => ?_) AllReadyH.nil
    go_simp
    refine hK.out _ _ SW1 (fun hHeld => ?_)
    generalize (((X0.setCell ⟨rb, 0, none⟩ (.int .i64 k0)).setCell ⟨rb, 1, none⟩ (.int .i64 k1)).setCell ⟨rb, 2, none⟩ (.int .i64 k2)).setCell ⟨rb, 3, none⟩ (.int .i64 k3) = X9 at *
    refine take_to 4 (some 9) (v := ?_) rfl rfl (by kernel_rfl) (by kernel_rfl) (by kernel_rfl) (fun _ _ _ h => h) (Or.inl ⟨by rfl, ?_⟩) (by first | trivial | assumption) ?_
    rotate_left
    focus (intro w hSw; (try dsimp only at hSw); go_simp; (try with_reducible rfl))
    simp only [Act.put, List.setIfInBounds_toArray, List.set_cons_zero, List.set_cons_succ]
    refine wpAnyH_done (by kernel_rfl) ?_ _
    have HB9 := Lib.hid (Mod.below_of HXd.out.1.1 HM9.out HXd.out.1.1.size (by have := HU.out; simp; omega))
    go_wp2_with fail
    (try simp only [Exit.inBlock, Exit.then])
    exact bodyPost_ret (v := .tuple #[.pointer none, .pointer none, .agg #[.int .i64 k0, .int .i64 k1, .int .i64 k2, .int .i64 k3], .bool false]) (by simp [results, Tryz.results8, go_sem, r0, r1, r2, r3]) rfl ⟨by rw [HMP.out], HB9.out⟩
set_option maxRecDepth 100000 in
theorem made_ok (hck : chk p t = 0) (h8 : t.length ≤ 8) : Calls Tryz.prog 8 #[(.agg #[.slice A p.length c, .slice B t.length d]), .agg #[.int .u8 n0, .int .u8 n1, .int .u8 n2], .bool fifo] w (MadeAft p t n0 n1 n2 fifo w) := by
  have hsm := fun W h1 h2 => Rn.small_any p t A B c d W h1 h2 8
  rw [show (decide (chk p t = 0) && decide ((t.length : Int) ≤ 8)) = true by rw [decide_eq_true hck, decide_eq_true (show (t.length : Int) ≤ 8 by omega)]; rfl] at hsm
  have HSM := Lib.hid hsm
  have HS := Lib.hid hs
  have HT := Lib.hid ht
  clear hs ht hsm
  cases fifo with
  | true =>
    have HOK := Lib.hid (nw_ok hck (kg := 2 + n0 % 4) (kl := 2 + n1 % 4) (par := 1 + n2 / 4 % 4) (bud := n2 % 4) (by omega) (by omega) (by omega) (by omega))
    have HBR := Lib.hid (show Bud.right (n2 % 4) = true from Bud.right_iff.2 (by omega))
    have HRM := Lib.hid (nw_fits hck HOK.out (by omega))
    have hmp : mpOf n0 n1 n2 true = .agg #[.int .i64 (2 + n0 % 4), .int .i64 (2 + n1 % 4), .int .i64 (1 + n2 / 4 % 4), .int .i64 (n2 % 4)] := by simp [mpOf, kgOf]
    have hmw : mwOf p t n0 n1 n2 true = nwOf p t (2 + n0 % 4) (2 + n1 % 4) (1 + n2 / 4 % 4) (n2 % 4) := by simp [mwOf, kgOf]
    have HMP := Lib.hid hmp
    have HMW := Lib.hid hmw
    clear hmp hmw
    go_enter Tryz.func8, Tryz.ntmps8
    go_upto_region 5 with fail
    have HX := Lib.hid (MdW.made w (.slice A p.length c) (.slice B t.length d) (2 + n0 % 4) (2 + n1 % 4) (1 + n2 / 4 % 4) (n2 % 4) #[.int .u8 n0, .int .u8 n1, .int .u8 n2] 25)
    generalize (((w.alloc (.cells #[.slice A p.length c, .slice B t.length d] 24)).alloc (.cells #[.int .u8 n0, .int .u8 n1, .int .u8 n2] 25)).alloc (.cells #[.int .i64 0, .int .i64 0, .int .i64 0, .int .i64 0] 30)).alloc (.cells #[.int .i64 (2 + n0 % 4), .int .i64 (2 + n1 % 4), .int .i64 (1 + n2 / 4 % 4), .int .i64 (n2 % 4)] 30) = W0 at *
    generalize hpb : w.heap.size + 1 + 1 + 1 = pb at *
    generalize hrb : w.heap.size + 1 + 1 = rb at *
    have u1 : w.heap.size + 2 = rb := hrb
    have HU := Lib.hid (And.intro u1 (show rb + 1 = pb by omega))
    clear hpb hrb u1
    generalize hk0 : (2 + n0 % 4) = k0 at *
    generalize hk1 : (2 + n1 % 4) = k1 at *
    generalize hk2 : (1 + n2 / 4 % 4) = k2 at *
    generalize hk3 : (n2 % 4) = k3 at *
    clear hk0 hk1 hk2 hk3
    have c0 := HX.out.1.2.2.1
    have c1 := HX.out.1.2.2.2
    go_wp2_with fail
    refine (HSM.out _ (HX.out.1.sl HS.out) (HX.out.1.sl HT.out)).mono ?_
    rintro e W1 ⟨rfl, b1⟩
    have HX1 := Lib.hid (HX.out.step b1)
    clear c0 c1 b1 HX
    go_wp2_with fail
    refine (new_in 4096 _).mono ?_
    rintro e W2 ⟨rfl, ha2, hz2, b2⟩
    have HX2 := Lib.hid (HX1.out.step b2)
    have HA2 := Lib.hid ha2
    have c0 := HX2.out.1.2.2.1
    have c1 := HX2.out.1.2.2.2
    have hsz1 := lt_of_blk HX1.out.2.2
    have hu8 := HU.out
    have SW0 : (W2).cell? ⟨pb, 0, none⟩ = some (.int .i64 k0) ∧ (W2).cell? ⟨pb, 1, none⟩ = some (.int .i64 k1) ∧ (W2).cell? ⟨pb, 2, none⟩ = some (.int .i64 k2) ∧ (W2).cell? ⟨pb, 3, none⟩ = some (.int .i64 k3) := ⟨blk_cell HX2.out.2.2 0 (by simp), blk_cell HX2.out.2.2 1 (by simp), blk_cell HX2.out.2.2 2 (by simp), blk_cell HX2.out.2.2 3 (by simp)⟩
    obtain ⟨q0, q1, q2, q3⟩ := SW0
    have HNW := Lib.hid (new_co p t A B c d W2 hck (HX2.out.1.sl HS.out) (HX2.out.1.sl HT.out) (W1.heap.size + 1) W1.heap.size (Ar.fresh 4096) HA2.out (by omega) (by omega) k0 k1 k2 k3 HOK.out HBR.out HRM.out (by decide) (by decide))
    clear b2 ha2 HX1
    go_wp2_with fail
    refine HNW.out.mono ?_
    rintro e W3 ⟨cd, rfl, hK, ⟨g1, g2, g3⟩, hcol, hm3⟩
    have HK := Lib.hid hK
    have HCOL := Lib.hid hcol
    have HG := Lib.hid (And.intro g1 g2)
    have HL := Lib.hid g3
    have hb3 : Below (w.heap.size + 4) W2 W3 := hm3.below (by omega) (by simp; omega)
    have HX3 := Lib.hid (show MdW w rb pb (.slice A p.length c) (.slice B t.length d) k0 k1 k2 k3 W3 from ⟨⟨HX2.out.1.1.trans (hb3.mono (by omega)), by have := HX2.out.1.2.1; have := hb3.size; omega, (hb3.cell (p := ⟨w.heap.size, 0, none⟩) (by show w.heap.size < _; omega)).trans c0, (hb3.cell (p := ⟨w.heap.size, 1, none⟩) (by show w.heap.size < _; omega)).trans c1⟩, (hb3.block _ (by omega)).trans HX2.out.2.1, (hb3.block _ (by omega)).trans HX2.out.2.2⟩)
    clear hu8 hK hcol g1 g2 hm3 hb3 c0 c1 q0 q1 q2 q3 HX2 HNW
    go_upto_region 9 with fail
    have HXd := Lib.hid (HX3.out.step (show Below W3.heap.size W3 W3.drew from Below.drew (Below.refl _ _)))
    have HKd := Lib.hid (HK.out.same (show Below W3.heap.size W3 W3.drew from Below.drew (Below.refl _ _)))
    have SW0 : (W3.drew).cell? ⟨pb, 0, none⟩ = some (.int .i64 k0) ∧ (W3.drew).cell? ⟨pb, 1, none⟩ = some (.int .i64 k1) ∧ (W3.drew).cell? ⟨pb, 2, none⟩ = some (.int .i64 k2) ∧ (W3.drew).cell? ⟨pb, 3, none⟩ = some (.int .i64 k3) := ⟨blk_cell HXd.out.2.2 0 (by simp), blk_cell HXd.out.2.2 1 (by simp), blk_cell HXd.out.2.2 2 (by simp), blk_cell HXd.out.2.2 3 (by simp)⟩
    refine wp_region_held_drew (S := (fun V => V.cell? ⟨pb, 0, none⟩ = some (.int .i64 k0) ∧ V.cell? ⟨pb, 1, none⟩ = some (.int .i64 k1) ∧ V.cell? ⟨pb, 2, none⟩ = some (.int .i64 k2) ∧ V.cell? ⟨pb, 3, none⟩ = some (.int .i64 k3))) (by kernel_rfl) SW0 (fun hHeld => ?_)
    clear HX3 HK
    generalize W3.drew = X0 at *
    refine take_to 0 (some 60) (v := ?_) rfl rfl (by kernel_rfl) (by kernel_rfl) (by kernel_rfl) (fun _ _ _ h => h) (Or.inl ⟨by rfl, ?_⟩) (by first | trivial | assumption) ?_
    rotate_left
    focus (intro w hSw; (try dsimp only at hSw); go_simp; (try with_reducible rfl))
    simp only [Act.put, List.setIfInBounds_toArray, List.set_cons_zero, List.set_cons_succ]
    refine take_to 1 (some 61) (v := ?_) rfl rfl (by kernel_rfl) (by kernel_rfl) (by kernel_rfl) (fun _ _ _ h => h) (Or.inl ⟨by rfl, ?_⟩) (by first | trivial | assumption) ?_
    rotate_left
    focus (intro w hSw; (try dsimp only at hSw); go_simp; (try with_reducible rfl))
    simp only [Act.put, List.setIfInBounds_toArray, List.set_cons_zero, List.set_cons_succ]
    refine take_to 2 (some 62) (v := ?_) rfl rfl (by kernel_rfl) (by kernel_rfl) (by kernel_rfl) (fun _ _ _ h => h) (Or.inl ⟨by rfl, ?_⟩) (by first | trivial | assumption) ?_
    rotate_left
    focus (intro w hSw; (try dsimp only at hSw); go_simp; (try with_reducible rfl))
    simp only [Act.put, List.setIfInBounds_toArray, List.set_cons_zero, List.set_cons_succ]
    refine take_to 3 (some 63) (v := ?_) rfl rfl (by kernel_rfl) (by kernel_rfl) (by kernel_rfl) (fun _ _ _ h => h) (Or.inl ⟨by rfl, ?_⟩) (by first | trivial | assumption) ?_
    rotate_left
    focus (intro w hSw; (try dsimp only at hSw); go_simp; (try with_reducible rfl))
    simp only [Act.put, List.setIfInBounds_toArray, List.set_cons_zero, List.set_cons_succ]
    refine take_to 4 (some 64) (v := ?_) rfl rfl (by kernel_rfl) (by kernel_rfl) (by kernel_rfl) (fun _ _ _ h => h) (Or.inl ⟨by rfl, ?_⟩) (by first | trivial | assumption) ?_
    rotate_left
    focus (intro w hSw; (try dsimp only at hSw); go_simp; (try with_reducible rfl))
    simp only [Act.put, List.setIfInBounds_toArray, List.set_cons_zero, List.set_cons_succ]
    refine take_to 5 (some 65) (v := ?_) rfl rfl (by kernel_rfl) (by kernel_rfl) (by kernel_rfl) (fun _ _ _ h => h) (Or.inl ⟨by rfl, ?_⟩) (by first | trivial | assumption) ?_
    rotate_left
    focus (intro w hSw; (try dsimp only at hSw); go_simp; (try with_reducible rfl))
    simp only [Act.put, List.setIfInBounds_toArray, List.set_cons_zero, List.set_cons_succ]
    refine take_to 6 (some 66) (v := ?_) rfl rfl (by kernel_rfl) (by kernel_rfl) (by kernel_rfl) (fun _ _ _ h => h) (Or.inl ⟨by rfl, ?_⟩) (by first | trivial | assumption) ?_
    rotate_left
    focus (intro w hSw; (try dsimp only at hSw); go_simp; (try with_reducible rfl))
    simp only [Act.put, List.setIfInBounds_toArray, List.set_cons_zero, List.set_cons_succ]
    refine take_to 7 (some 67) (v := ?_) rfl rfl (by kernel_rfl) (by kernel_rfl) (by kernel_rfl) (fun _ _ _ h => h) (Or.inl ⟨by rfl, ?_⟩) (by first | trivial | assumption) ?_
    rotate_left
    focus (intro w hSw; (try dsimp only at hSw); go_simp; (try with_reducible rfl))
    simp only [Act.put, List.setIfInBounds_toArray, List.set_cons_zero, List.set_cons_succ]
    refine take_to 8 (some 68) (v := ?_) rfl rfl (by kernel_rfl) (by kernel_rfl) (by kernel_rfl) (fun _ _ _ h => h) (Or.inl ⟨by rfl, ?_⟩) (by first | trivial | assumption) ?_
    rotate_left
    focus (intro w hSw; (try dsimp only at hSw); go_simp; (try with_reducible rfl))
    simp only [Act.put, List.setIfInBounds_toArray, List.set_cons_zero, List.set_cons_succ]
    refine take_to 9 (some 6) (v := ?_) rfl rfl (by kernel_rfl) (by kernel_rfl) (by kernel_rfl) (fun _ _ _ h => h) (Or.inl ⟨by rfl, ?_⟩) (by first | trivial | assumption) ?_
    rotate_left
    focus (intro w hSw; (try dsimp only at hSw); go_simp; (try with_reducible rfl))
    simp only [Act.put, List.setIfInBounds_toArray, List.set_cons_zero, List.set_cons_succ]
    refine take_to 10 (some 7) (v := ?_) rfl rfl (by kernel_rfl) (by kernel_rfl) (by kernel_rfl) (fun _ _ _ h => h) (Or.inl ⟨by rfl, ?_⟩) (by first | trivial | assumption) ?_
    rotate_left
    focus (intro w hSw; (try dsimp only at hSw); go_simp; (try with_reducible rfl))
    simp only [Act.put, List.setIfInBounds_toArray, List.set_cons_zero, List.set_cons_succ]
    have hR := HXd.out.2.1
    have b0 := blk_cell hR 0 (by simp)
    have b1 := blk_cell hR 1 (by simp)
    have b2 := blk_cell hR 2 (by simp)
    have b3 := blk_cell hR 3 (by simp)
    have f0 := blk_free hR 0
    have f1 := blk_free hR 1
    have f2 := blk_free hR 2
    have f3 := blk_free hR 3
    simp only [List.getElem_toArray, List.getElem_cons_zero, List.getElem_cons_succ] at b0 b1 b2 b3
    have B3 := blk_set (blk_set (blk_set (blk_set hR 0 (.int .i64 k0)) 1 (.int .i64 k1)) 2 (.int .i64 k2)) 3 (.int .i64 k3)
    have r0 := blk_cell B3 0 (by simp)
    have r1 := blk_cell B3 1 (by simp)
    have r2 := blk_cell B3 2 (by simp)
    have r3 := blk_cell B3 3 (by simp)
    simp at r0 r1 r2 r3
    have hu9 := HU.out
    have hm9 : Mod [rb] X0 ((((X0.setCell ⟨rb, 0, none⟩ (.int .i64 k0)).setCell ⟨rb, 1, none⟩ (.int .i64 k1)).setCell ⟨rb, 2, none⟩ (.int .i64 k2)).setCell ⟨rb, 3, none⟩ (.int .i64 k3)) := ((((Mod.refl _ _).setCell (by simp) _).setCell (by simp) _).setCell (by simp) _).setCell (by simp) _
    have hp9 := hm9.blk HXd.out.2.2 (by simp; omega)
    have SW1 : ((((X0.setCell ⟨rb, 0, none⟩ (.int .i64 k0)).setCell ⟨rb, 1, none⟩ (.int .i64 k1)).setCell ⟨rb, 2, none⟩ (.int .i64 k2)).setCell ⟨rb, 3, none⟩ (.int .i64 k3)).cell? ⟨pb, 0, none⟩ = some (.int .i64 k0) ∧ ((((X0.setCell ⟨rb, 0, none⟩ (.int .i64 k0)).setCell ⟨rb, 1, none⟩ (.int .i64 k1)).setCell ⟨rb, 2, none⟩ (.int .i64 k2)).setCell ⟨rb, 3, none⟩ (.int .i64 k3)).cell? ⟨pb, 1, none⟩ = some (.int .i64 k1) ∧ ((((X0.setCell ⟨rb, 0, none⟩ (.int .i64 k0)).setCell ⟨rb, 1, none⟩ (.int .i64 k1)).setCell ⟨rb, 2, none⟩ (.int .i64 k2)).setCell ⟨rb, 3, none⟩ (.int .i64 k3)).cell? ⟨pb, 2, none⟩ = some (.int .i64 k2) ∧ ((((X0.setCell ⟨rb, 0, none⟩ (.int .i64 k0)).setCell ⟨rb, 1, none⟩ (.int .i64 k1)).setCell ⟨rb, 2, none⟩ (.int .i64 k2)).setCell ⟨rb, 3, none⟩ (.int .i64 k3)).cell? ⟨pb, 3, none⟩ = some (.int .i64 k3) := ⟨blk_cell hp9 0 (by simp), blk_cell hp9 1 (by simp), blk_cell hp9 2 (by simp), blk_cell hp9 3 (by simp)⟩
    have HM9 := Lib.hid hm9
    clear hR B3 hm9 hp9 hu9
    refine wpAnyH_ready (rs := [11]) (by kernel_rfl) (by simp) ?_
    refine AllReadyH.cons rfl (fun K hK => ?_) AllReadyH.nil
    go_simp
    refine hK.out _ _ SW1 (fun hHeld => ?_)
    generalize (((X0.setCell ⟨rb, 0, none⟩ (.int .i64 k0)).setCell ⟨rb, 1, none⟩ (.int .i64 k1)).setCell ⟨rb, 2, none⟩ (.int .i64 k2)).setCell ⟨rb, 3, none⟩ (.int .i64 k3) = X9 at *
    refine take_to 12 (some 9) (v := ?_) rfl rfl (by kernel_rfl) (by kernel_rfl) (by kernel_rfl) (fun _ _ _ h => h) (Or.inl ⟨by rfl, ?_⟩) (by first | trivial | assumption) ?_
    rotate_left
    focus (intro w hSw; (try dsimp only at hSw); go_simp; (try with_reducible rfl))
    simp only [Act.put, List.setIfInBounds_toArray, List.set_cons_zero, List.set_cons_succ]
    refine wpAnyH_done (by kernel_rfl) ?_ _
    have HB9 := Lib.hid (Mod.below_of HXd.out.1.1 HM9.out HXd.out.1.1.size (by have := HU.out; simp; omega))
    have hlt9 := lt_of_blk HXd.out.2.1
    have hu7 := HU.out
    have hz7 := hz2
    have HKF := Lib.hid (HKd.out.low HL.out HM9.out (by intro b hb; simp at hb; have := HG.out; omega))
    go_wp2_with fail
    (try simp only [Exit.inBlock, Exit.then])
    refine bodyPost_ret (v := .tuple #[.pointer (some ⟨W1.heap.size + 1, 0, none⟩), .pointer (some ⟨cd.gl, 0, none⟩), .agg #[.int .i64 k0, .int .i64 k1, .int .i64 k2, .int .i64 k3], .bool true]) (by simp [results, Tryz.results8, go_sem, r0, r1, r2, r3]) rfl ⟨cd, by rw [HMP.out, HG.out.1], ?_, ?_, HB9.out⟩
    · rw [HMW.out]
      exact HKF.out
    · intro x hx
      exact HCOL.out x (by omega) (by omega) (by omega)
  | false =>
    have HOK := Lib.hid (nw_ok hck (kg := 1 + n0 % 5) (kl := 1 + n1 % 5) (par := 1 + n2 / 4 % 4) (bud := n2 % 4) (by omega) (by omega) (by omega) (by omega))
    have HBR := Lib.hid (show Bud.right (n2 % 4) = true from Bud.right_iff.2 (by omega))
    have HRM := Lib.hid (nw_fits hck HOK.out (by omega))
    have hmp : mpOf n0 n1 n2 false = .agg #[.int .i64 (1 + n0 % 5), .int .i64 (1 + n1 % 5), .int .i64 (1 + n2 / 4 % 4), .int .i64 (n2 % 4)] := by simp [mpOf, kgOf]
    have hmw : mwOf p t n0 n1 n2 false = nwOf p t (1 + n0 % 5) (1 + n1 % 5) (1 + n2 / 4 % 4) (n2 % 4) := by simp [mwOf, kgOf]
    have HMP := Lib.hid hmp
    have HMW := Lib.hid hmw
    clear hmp hmw
    go_enter Tryz.func8, Tryz.ntmps8
    go_upto_region 5 with fail
    have HX := Lib.hid (MdW.made w (.slice A p.length c) (.slice B t.length d) (1 + n0 % 5) (1 + n1 % 5) (1 + n2 / 4 % 4) (n2 % 4) #[.int .u8 n0, .int .u8 n1, .int .u8 n2] 25)
    generalize (((w.alloc (.cells #[.slice A p.length c, .slice B t.length d] 24)).alloc (.cells #[.int .u8 n0, .int .u8 n1, .int .u8 n2] 25)).alloc (.cells #[.int .i64 0, .int .i64 0, .int .i64 0, .int .i64 0] 30)).alloc (.cells #[.int .i64 (1 + n0 % 5), .int .i64 (1 + n1 % 5), .int .i64 (1 + n2 / 4 % 4), .int .i64 (n2 % 4)] 30) = W0 at *
    generalize hpb : w.heap.size + 1 + 1 + 1 = pb at *
    generalize hrb : w.heap.size + 1 + 1 = rb at *
    have u1 : w.heap.size + 2 = rb := hrb
    have HU := Lib.hid (And.intro u1 (show rb + 1 = pb by omega))
    clear hpb hrb u1
    generalize hk0 : (1 + n0 % 5) = k0 at *
    generalize hk1 : (1 + n1 % 5) = k1 at *
    generalize hk2 : (1 + n2 / 4 % 4) = k2 at *
    generalize hk3 : (n2 % 4) = k3 at *
    clear hk0 hk1 hk2 hk3
    have c0 := HX.out.1.2.2.1
    have c1 := HX.out.1.2.2.2
    go_wp2_with fail
    refine (HSM.out _ (HX.out.1.sl HS.out) (HX.out.1.sl HT.out)).mono ?_
    rintro e W1 ⟨rfl, b1⟩
    have HX1 := Lib.hid (HX.out.step b1)
    clear c0 c1 b1 HX
    go_wp2_with fail
    refine (new_in 4096 _).mono ?_
    rintro e W2 ⟨rfl, ha2, hz2, b2⟩
    have HX2 := Lib.hid (HX1.out.step b2)
    have HA2 := Lib.hid ha2
    have c0 := HX2.out.1.2.2.1
    have c1 := HX2.out.1.2.2.2
    have hsz1 := lt_of_blk HX1.out.2.2
    have hu8 := HU.out
    have SW0 : (W2).cell? ⟨pb, 0, none⟩ = some (.int .i64 k0) ∧ (W2).cell? ⟨pb, 1, none⟩ = some (.int .i64 k1) ∧ (W2).cell? ⟨pb, 2, none⟩ = some (.int .i64 k2) ∧ (W2).cell? ⟨pb, 3, none⟩ = some (.int .i64 k3) := ⟨blk_cell HX2.out.2.2 0 (by simp), blk_cell HX2.out.2.2 1 (by simp), blk_cell HX2.out.2.2 2 (by simp), blk_cell HX2.out.2.2 3 (by simp)⟩
    obtain ⟨q0, q1, q2, q3⟩ := SW0
    have HNW := Lib.hid (new_co p t A B c d W2 hck (HX2.out.1.sl HS.out) (HX2.out.1.sl HT.out) (W1.heap.size + 1) W1.heap.size (Ar.fresh 4096) HA2.out (by omega) (by omega) k0 k1 k2 k3 HOK.out HBR.out HRM.out (by decide) (by decide))
    clear b2 ha2 HX1
    go_wp2_with fail
    refine HNW.out.mono ?_
    rintro e W3 ⟨cd, rfl, hK, ⟨g1, g2, g3⟩, hcol, hm3⟩
    have HK := Lib.hid hK
    have HCOL := Lib.hid hcol
    have HG := Lib.hid (And.intro g1 g2)
    have HL := Lib.hid g3
    have hb3 : Below (w.heap.size + 4) W2 W3 := hm3.below (by omega) (by simp; omega)
    have HX3 := Lib.hid (show MdW w rb pb (.slice A p.length c) (.slice B t.length d) k0 k1 k2 k3 W3 from ⟨⟨HX2.out.1.1.trans (hb3.mono (by omega)), by have := HX2.out.1.2.1; have := hb3.size; omega, (hb3.cell (p := ⟨w.heap.size, 0, none⟩) (by show w.heap.size < _; omega)).trans c0, (hb3.cell (p := ⟨w.heap.size, 1, none⟩) (by show w.heap.size < _; omega)).trans c1⟩, (hb3.block _ (by omega)).trans HX2.out.2.1, (hb3.block _ (by omega)).trans HX2.out.2.2⟩)
    clear hu8 hK hcol g1 g2 hm3 hb3 c0 c1 q0 q1 q2 q3 HX2 HNW
    go_upto_region 9 with fail
    have HXd := Lib.hid (HX3.out.step (show Below W3.heap.size W3 W3.drew from Below.drew (Below.refl _ _)))
    have HKd := Lib.hid (HK.out.same (show Below W3.heap.size W3 W3.drew from Below.drew (Below.refl _ _)))
    have SW0 : (W3.drew).cell? ⟨pb, 0, none⟩ = some (.int .i64 k0) ∧ (W3.drew).cell? ⟨pb, 1, none⟩ = some (.int .i64 k1) ∧ (W3.drew).cell? ⟨pb, 2, none⟩ = some (.int .i64 k2) ∧ (W3.drew).cell? ⟨pb, 3, none⟩ = some (.int .i64 k3) := ⟨blk_cell HXd.out.2.2 0 (by simp), blk_cell HXd.out.2.2 1 (by simp), blk_cell HXd.out.2.2 2 (by simp), blk_cell HXd.out.2.2 3 (by simp)⟩
    refine wp_region_held_drew (S := (fun V => V.cell? ⟨pb, 0, none⟩ = some (.int .i64 k0) ∧ V.cell? ⟨pb, 1, none⟩ = some (.int .i64 k1) ∧ V.cell? ⟨pb, 2, none⟩ = some (.int .i64 k2) ∧ V.cell? ⟨pb, 3, none⟩ = some (.int .i64 k3))) (by kernel_rfl) SW0 (fun hHeld => ?_)
    clear HX3 HK
    generalize W3.drew = X0 at *
    refine take_to 0 (some 60) (v := ?_) rfl rfl (by kernel_rfl) (by kernel_rfl) (by kernel_rfl) (fun _ _ _ h => h) (Or.inl ⟨by rfl, ?_⟩) (by first | trivial | assumption) ?_
    rotate_left
    focus (intro w hSw; (try dsimp only at hSw); go_simp; (try with_reducible rfl))
    simp only [Act.put, List.setIfInBounds_toArray, List.set_cons_zero, List.set_cons_succ]
    refine take_to 1 (some 61) (v := ?_) rfl rfl (by kernel_rfl) (by kernel_rfl) (by kernel_rfl) (fun _ _ _ h => h) (Or.inl ⟨by rfl, ?_⟩) (by first | trivial | assumption) ?_
    rotate_left
    focus (intro w hSw; (try dsimp only at hSw); go_simp; (try with_reducible rfl))
    simp only [Act.put, List.setIfInBounds_toArray, List.set_cons_zero, List.set_cons_succ]
    refine take_to 2 (some 62) (v := ?_) rfl rfl (by kernel_rfl) (by kernel_rfl) (by kernel_rfl) (fun _ _ _ h => h) (Or.inl ⟨by rfl, ?_⟩) (by first | trivial | assumption) ?_
    rotate_left
    focus (intro w hSw; (try dsimp only at hSw); go_simp; (try with_reducible rfl))
    simp only [Act.put, List.setIfInBounds_toArray, List.set_cons_zero, List.set_cons_succ]
    refine take_to 3 (some 63) (v := ?_) rfl rfl (by kernel_rfl) (by kernel_rfl) (by kernel_rfl) (fun _ _ _ h => h) (Or.inl ⟨by rfl, ?_⟩) (by first | trivial | assumption) ?_
    rotate_left
    focus (intro w hSw; (try dsimp only at hSw); go_simp; (try with_reducible rfl))
    simp only [Act.put, List.setIfInBounds_toArray, List.set_cons_zero, List.set_cons_succ]
    refine take_to 4 (some 64) (v := ?_) rfl rfl (by kernel_rfl) (by kernel_rfl) (by kernel_rfl) (fun _ _ _ h => h) (Or.inl ⟨by rfl, ?_⟩) (by first | trivial | assumption) ?_
    rotate_left
    focus (intro w hSw; (try dsimp only at hSw); go_simp; (try with_reducible rfl))
    simp only [Act.put, List.setIfInBounds_toArray, List.set_cons_zero, List.set_cons_succ]
    refine take_to 5 (some 65) (v := ?_) rfl rfl (by kernel_rfl) (by kernel_rfl) (by kernel_rfl) (fun _ _ _ h => h) (Or.inl ⟨by rfl, ?_⟩) (by first | trivial | assumption) ?_
    rotate_left
    focus (intro w hSw; (try dsimp only at hSw); go_simp; (try with_reducible rfl))
    simp only [Act.put, List.setIfInBounds_toArray, List.set_cons_zero, List.set_cons_succ]
    refine take_to 6 (some 66) (v := ?_) rfl rfl (by kernel_rfl) (by kernel_rfl) (by kernel_rfl) (fun _ _ _ h => h) (Or.inl ⟨by rfl, ?_⟩) (by first | trivial | assumption) ?_
    rotate_left
    focus (intro w hSw; (try dsimp only at hSw); go_simp; (try with_reducible rfl))
    simp only [Act.put, List.setIfInBounds_toArray, List.set_cons_zero, List.set_cons_succ]
    refine take_to 7 (some 67) (v := ?_) rfl rfl (by kernel_rfl) (by kernel_rfl) (by kernel_rfl) (fun _ _ _ h => h) (Or.inl ⟨by rfl, ?_⟩) (by first | trivial | assumption) ?_
    rotate_left
    focus (intro w hSw; (try dsimp only at hSw); go_simp; (try with_reducible rfl))
    simp only [Act.put, List.setIfInBounds_toArray, List.set_cons_zero, List.set_cons_succ]
    refine take_to 8 (some 68) (v := ?_) rfl rfl (by kernel_rfl) (by kernel_rfl) (by kernel_rfl) (fun _ _ _ h => h) (Or.inl ⟨by rfl, ?_⟩) (by first | trivial | assumption) ?_
    rotate_left
    focus (intro w hSw; (try dsimp only at hSw); go_simp; (try with_reducible rfl))
    simp only [Act.put, List.setIfInBounds_toArray, List.set_cons_zero, List.set_cons_succ]
    refine take_to 9 (some 6) (v := ?_) rfl rfl (by kernel_rfl) (by kernel_rfl) (by kernel_rfl) (fun _ _ _ h => h) (Or.inl ⟨by rfl, ?_⟩) (by first | trivial | assumption) ?_
    rotate_left
    focus (intro w hSw; (try dsimp only at hSw); go_simp; (try with_reducible rfl))
    simp only [Act.put, List.setIfInBounds_toArray, List.set_cons_zero, List.set_cons_succ]
    refine take_to 10 (some 7) (v := ?_) rfl rfl (by kernel_rfl) (by kernel_rfl) (by kernel_rfl) (fun _ _ _ h => h) (Or.inl ⟨by rfl, ?_⟩) (by first | trivial | assumption) ?_
    rotate_left
    focus (intro w hSw; (try dsimp only at hSw); go_simp; (try with_reducible rfl))
    simp only [Act.put, List.setIfInBounds_toArray, List.set_cons_zero, List.set_cons_succ]
    have hR := HXd.out.2.1
    have b0 := blk_cell hR 0 (by simp)
    have b1 := blk_cell hR 1 (by simp)
    have b2 := blk_cell hR 2 (by simp)
    have b3 := blk_cell hR 3 (by simp)
    have f0 := blk_free hR 0
    have f1 := blk_free hR 1
    have f2 := blk_free hR 2
    have f3 := blk_free hR 3
    simp only [List.getElem_toArray, List.getElem_cons_zero, List.getElem_cons_succ] at b0 b1 b2 b3
    have B3 := blk_set (blk_set (blk_set (blk_set hR 0 (.int .i64 k0)) 1 (.int .i64 k1)) 2 (.int .i64 k2)) 3 (.int .i64 k3)
    have r0 := blk_cell B3 0 (by simp)
    have r1 := blk_cell B3 1 (by simp)
    have r2 := blk_cell B3 2 (by simp)
    have r3 := blk_cell B3 3 (by simp)
    simp at r0 r1 r2 r3
    have hu9 := HU.out
    have hm9 : Mod [rb] X0 ((((X0.setCell ⟨rb, 0, none⟩ (.int .i64 k0)).setCell ⟨rb, 1, none⟩ (.int .i64 k1)).setCell ⟨rb, 2, none⟩ (.int .i64 k2)).setCell ⟨rb, 3, none⟩ (.int .i64 k3)) := ((((Mod.refl _ _).setCell (by simp) _).setCell (by simp) _).setCell (by simp) _).setCell (by simp) _
    have hp9 := hm9.blk HXd.out.2.2 (by simp; omega)
    have SW1 : ((((X0.setCell ⟨rb, 0, none⟩ (.int .i64 k0)).setCell ⟨rb, 1, none⟩ (.int .i64 k1)).setCell ⟨rb, 2, none⟩ (.int .i64 k2)).setCell ⟨rb, 3, none⟩ (.int .i64 k3)).cell? ⟨pb, 0, none⟩ = some (.int .i64 k0) ∧ ((((X0.setCell ⟨rb, 0, none⟩ (.int .i64 k0)).setCell ⟨rb, 1, none⟩ (.int .i64 k1)).setCell ⟨rb, 2, none⟩ (.int .i64 k2)).setCell ⟨rb, 3, none⟩ (.int .i64 k3)).cell? ⟨pb, 1, none⟩ = some (.int .i64 k1) ∧ ((((X0.setCell ⟨rb, 0, none⟩ (.int .i64 k0)).setCell ⟨rb, 1, none⟩ (.int .i64 k1)).setCell ⟨rb, 2, none⟩ (.int .i64 k2)).setCell ⟨rb, 3, none⟩ (.int .i64 k3)).cell? ⟨pb, 2, none⟩ = some (.int .i64 k2) ∧ ((((X0.setCell ⟨rb, 0, none⟩ (.int .i64 k0)).setCell ⟨rb, 1, none⟩ (.int .i64 k1)).setCell ⟨rb, 2, none⟩ (.int .i64 k2)).setCell ⟨rb, 3, none⟩ (.int .i64 k3)).cell? ⟨pb, 3, none⟩ = some (.int .i64 k3) := ⟨blk_cell hp9 0 (by simp), blk_cell hp9 1 (by simp), blk_cell hp9 2 (by simp), blk_cell hp9 3 (by simp)⟩
    have HM9 := Lib.hid hm9
    clear hR B3 hm9 hp9 hu9
    refine wpAnyH_ready (rs := [11]) (by kernel_rfl) (by simp) ?_
    refine AllReadyH.cons rfl (fun K hK => ?_) AllReadyH.nil
    go_simp
    refine hK.out _ _ SW1 (fun hHeld => ?_)
    generalize (((X0.setCell ⟨rb, 0, none⟩ (.int .i64 k0)).setCell ⟨rb, 1, none⟩ (.int .i64 k1)).setCell ⟨rb, 2, none⟩ (.int .i64 k2)).setCell ⟨rb, 3, none⟩ (.int .i64 k3) = X9 at *
    refine take_to 12 (some 9) (v := ?_) rfl rfl (by kernel_rfl) (by kernel_rfl) (by kernel_rfl) (fun _ _ _ h => h) (Or.inl ⟨by rfl, ?_⟩) (by first | trivial | assumption) ?_
    rotate_left
    focus (intro w hSw; (try dsimp only at hSw); go_simp; (try with_reducible rfl))
    simp only [Act.put, List.setIfInBounds_toArray, List.set_cons_zero, List.set_cons_succ]
    refine wpAnyH_done (by kernel_rfl) ?_ _
    have HB9 := Lib.hid (Mod.below_of HXd.out.1.1 HM9.out HXd.out.1.1.size (by have := HU.out; simp; omega))
    have hlt9 := lt_of_blk HXd.out.2.1
    have hu7 := HU.out
    have hz7 := hz2
    have HKF := Lib.hid (HKd.out.low HL.out HM9.out (by intro b hb; simp at hb; have := HG.out; omega))
    go_wp2_with fail
    (try simp only [Exit.inBlock, Exit.then])
    refine bodyPost_ret (v := .tuple #[.pointer (some ⟨W1.heap.size + 1, 0, none⟩), .pointer (some ⟨cd.gl, 0, none⟩), .agg #[.int .i64 k0, .int .i64 k1, .int .i64 k2, .int .i64 k3], .bool true]) (by simp [results, Tryz.results8, go_sem, r0, r1, r2, r3]) rfl ⟨cd, by rw [HMP.out, HG.out.1], ?_, ?_, HB9.out⟩
    · rw [HMW.out]
      exact HKF.out
    · intro x hx
      exact HCOL.out x (by omega) (by omega) (by omega)
end
end Go.Proofs.YtfnmggmgdmokcaaGreat.Cm

/- The law's steps: a thread's steps till it holds, or is at rest; its two nodes of two threads. -/
namespace Go.Proofs.YtfnmggmgdmokcaaGreat.Cm
open Go.RowKit Go.Proofs.YtfnmggmgdmokcaaGreat.Tp Go.Proofs.YtfnmggmgdmokcaaGreat.Ara Go.Proofs.YtfnmggmgdmokcaaGreat.Lok Go.Proofs.YtfnmggmgdmokcaaGreat.Fl Go.Proofs.YtfnmggmgdmokcaaGreat.Co

def stepsC (P : Pm) : Nat → CS → Int → Bool × CS
  | 0, x, _ => (false, x)
  | n + 1, x, i => if stepB P x i then (true, stepC P x i) else stepsC P n (stepC P x i) i
theorem CI.up {P : Pm} {x : CS} {m n : Nat} (D : Dj P) (H : CI P x m) (h : m ≤ n) : CI P x n := by
  induction n with
  | zero => obtain rfl : m = 0 := by omega
            exact H
  | succ n ih =>
    by_cases e : m = n + 1
    · rw [← e]; exact H
    · exact (ih (by omega)).more
theorem stepsC_ci {P : Pm} (D : Dj P) (i : Int) : ∀ (n : Nat) {x : CS} {m : Nat}, CI P x m → CI P (stepsC P n x i).2 (m + n)
  | 0, _, _, H => H
  | n + 1, x, m, H => by
    unfold stepsC
    have h1 := H.step D i
    split
    · exact CI.up D h1 (by omega)
    · have := stepsC_ci D i n h1
      rw [show m + (n + 1) = m + 1 + n by omega]
      exact this
def StJ (w : World) (c : Cd) (P : Pm) (x : CS) (m n : Nat) (i : Int) (a : Act) (W : World) : Prop :=
  a.tmps.size = 16 ∧ a.defers = [] ∧ a.tmps.getD 0 undef = .pointer (some ⟨c.gl, 0, none⟩) ∧ a.tmps.getD 1 undef = .int .i64 i ∧ a.tmps.getD 2 undef = .int .i64 (n : Int) ∧ ∃ (k : Nat) (x' : CS), a.tmps.getD 7 undef = .int .i64 (k : Int) ∧ k ≤ n ∧ CoAt W c P x' ∧ CI P x' (m + k) ∧ Kp c.col w W ∧ stepsC P (n - k) x' i = stepsC P n x i
theorem frame16 {a : Act} (h : a.tmps.size = 16) (hd : a.defers = []) : ∃ u : Nat → Value, a = { tmps := #[u 0, u 1, u 2, u 3, u 4, u 5, u 6, u 7, u 8, u 9, u 10, u 11, u 12, u 13, u 14, u 15], defers := [] } ∧ ∀ n, a.tmps.getD n undef = u n := by
  refine ⟨fun n => a.tmps.getD n undef, ?_, fun _ => rfl⟩
  have h1 := arr_lit a.tmps h
  cases a with
  | mk t d =>
    simp only at hd h1
    subst hd
    congr 1
theorem steps_co {W : World} {c : Cd} {P : Pm} {x : CS} (K : CoAt W c P x) (D : Dj P) {m : Nat} (H : CI P x m) (n : Nat) (hm : m + n ≤ 99999) (hB : Bud.right P.B = true) (i : Int) :
    Calls Tryz.prog 32 #[.pointer (some ⟨c.gl, 0, none⟩), .int .i64 i, .int .i64 (n : Int)] W (Aft c P (stepsC P n x i).2 (stepsC P n x i).1 W) := by
  have HK := Lib.hid K
  have HH := Lib.hid H
  clear K H
  go_enter Tryz.func32, Tryz.ntmps32
  go_wp2_with fail
  refine wp_loop (StJ W c P x m n i) (fun a' _ => n - (intOf (a'.tmps.getD 7 undef)).toNat) ?_ ?_
  · exact ⟨rfl, rfl, rfl, rfl, rfl, 0, x, rfl, Nat.zero_le _, HK.out, HH.out, Kp.refl _ _, rfl⟩
  · rintro a' W1 ⟨hsz, hdf, s0, s1, s2, k, x', s7, hk, hK, hH, hkp, heq⟩
    obtain ⟨u, rfl, hu⟩ := frame16 hsz hdf
    rw [hu] at s0 s1 s2 s7
    simp only [s0, s1, s2, s7]
    clear hsz hdf s0 s1 s2 s7 hu
    have HE := Lib.hid heq
    have HP := Lib.hid hkp
    have HH1 := Lib.hid hH
    clear heq hkp
    by_cases hlt : k < n
    · have i1 : (k : Int) < (n : Int) := by omega
      have HS := Lib.hid (step_co hK D hH (by omega) hB i)
      have HU := Lib.hid (show stepsC P (n - k) x' i = if stepB P x' i then (true, stepC P x' i) else stepsC P (n - (k + 1)) (stepC P x' i) i by
        obtain ⟨q, hq⟩ : ∃ q, n - k = q + 1 := ⟨n - k - 1, by omega⟩
        rw [hq, show n - (k + 1) = q by omega]
        rfl)
      clear hK hH
      cases hb : stepB P x' i with
      | true =>
        rw [hb] at HS HU
        have HU2 := Lib.hid (show stepsC P (n - k) x' i = (true, stepC P x' i) by rw [HU.out]; rfl)
        clear HU
        go_wp2_with fail
        refine HS.out.mono ?_
        rintro e w2 ⟨rfl, hk2, hp2⟩
        have HF := Lib.hid (And.intro hk2 (HP.out.trans hp2))
        clear hk2 hp2
        go_wp2_with fail
        go_ret
        have h9 := HE.out.symm.trans HU2.out
        exact ⟨by rw [h9]; rfl, by rw [h9]; exact HF.out.1, HF.out.2⟩
      | false =>
        rw [hb] at HS HU
        have HU2 := Lib.hid (show stepsC P (n - k) x' i = stepsC P (n - (k + 1)) (stepC P x' i) i by rw [HU.out]; rfl)
        clear HU
        go_wp2_with fail
        refine HS.out.mono ?_
        rintro e w2 ⟨rfl, hk2, hp2⟩
        have HF := Lib.hid (And.intro hk2 (HP.out.trans hp2))
        clear hk2 hp2
        go_wp2_with fail
        go_roundw
        case rel =>
          have h9 := HU2.out
          exact ⟨rfl, rfl, rfl, rfl, rfl, k + 1, _, by go_num, by omega, HF.out.1, HH1.out.step D i, HF.out.2, h9.symm.trans HE.out⟩
        case measure => simp [intOf]; omega
    · obtain rfl : k = n := by omega
      have i1 : ¬ (k : Int) < (k : Int) := by omega
      have h9 := HE.out.symm
      rw [Nat.sub_self] at h9
      have H9 := Lib.hid h9
      have HK1 := Lib.hid hK
      clear h9 hK hH
      go_wp2_with fail
      go_ret
      have h9 := H9.out
      exact ⟨by rw [h9]; rfl, by rw [h9]; exact HK1.out, HP.out⟩
def twoP : List Int := [-1, 0, 0]
def twoT : List Int := [1, 1, 2, 2]
theorem two_any (w : World) : Calls Tryz.prog 30 #[] w fun e w' => ∃ A B, e = .returned (.agg #[.slice A twoP.length 3, .slice B twoT.length 4]) ∧ Sl w' w'.heap.size A (twoP.flatMap decI) ∧ Sl w' w'.heap.size B (twoT.flatMap decI) ∧ Below w.heap.size w w' := by
  have HN := Lib.hid (below_new w (.cells #[.slice none 0 0, .slice none 0 0] 24))
  go_enter Tryz.func30, Tryz.ntmps30
  go_wp2_with fail
  (try simp only [Exit.inBlock, Exit.then])
  have hB1 : (((w.alloc (.cells #[.slice (some ⟨w.heap.size + 1, 0, none⟩) 3 3, .slice (some ⟨w.heap.size + 1 + 1, 0, none⟩) 4 4] 24)).alloc (.cells #[.int .i64 (-1), .int .i64 0, .int .i64 0] 3)).alloc (.cells #[.int .i64 1, .int .i64 1, .int .i64 2, .int .i64 2] 3)).heap[w.heap.size + 1]? = some (.cells (its twoP) 3 (0, 0)) := by
    refine blk_alloc ?_ _
    have := blk_new (w.alloc (.cells #[.slice (some ⟨w.heap.size + 1, 0, none⟩) 3 3, .slice (some ⟨w.heap.size + 1 + 1, 0, none⟩) 4 4] 24)) (.cells #[.int .i64 (-1), .int .i64 0, .int .i64 0] 3)
    rw [show (w.alloc (.cells #[.slice (some ⟨w.heap.size + 1, 0, none⟩) 3 3, .slice (some ⟨w.heap.size + 1 + 1, 0, none⟩) 4 4] 24)).heap.size = w.heap.size + 1 by simp] at this
    exact this
  have hB2 : (((w.alloc (.cells #[.slice (some ⟨w.heap.size + 1, 0, none⟩) 3 3, .slice (some ⟨w.heap.size + 1 + 1, 0, none⟩) 4 4] 24)).alloc (.cells #[.int .i64 (-1), .int .i64 0, .int .i64 0] 3)).alloc (.cells #[.int .i64 1, .int .i64 1, .int .i64 2, .int .i64 2] 3)).heap[w.heap.size + 1 + 1]? = some (.cells (its twoT) 3 (0, 0)) := by
    have := blk_new ((w.alloc (.cells #[.slice (some ⟨w.heap.size + 1, 0, none⟩) 3 3, .slice (some ⟨w.heap.size + 1 + 1, 0, none⟩) 4 4] 24)).alloc (.cells #[.int .i64 (-1), .int .i64 0, .int .i64 0] 3)) (.cells #[.int .i64 1, .int .i64 1, .int .i64 2, .int .i64 2] 3)
    rw [show ((w.alloc (.cells #[.slice (some ⟨w.heap.size + 1, 0, none⟩) 3 3, .slice (some ⟨w.heap.size + 1 + 1, 0, none⟩) 4 4] 24)).alloc (.cells #[.int .i64 (-1), .int .i64 0, .int .i64 0] 3)).heap.size = w.heap.size + 1 + 1 by simp] at this
    exact this
  have hb : Below w.heap.size w (((w.alloc (.cells #[.slice (some ⟨w.heap.size + 1, 0, none⟩) 3 3, .slice (some ⟨w.heap.size + 1 + 1, 0, none⟩) 4 4] 24)).alloc (.cells #[.int .i64 (-1), .int .i64 0, .int .i64 0] 3)).alloc (.cells #[.int .i64 1, .int .i64 1, .int .i64 2, .int .i64 2] 3)) :=
    (((Below.refl _ _).alloc (Nat.le_refl _) _).alloc (by simp) _).alloc (by simp; omega) _
  have s1 := Pa.sl_rw (l := twoP) (fun j hj => its_cell hB1 hj) (lt_of_blk hB1)
  have s2 := Pa.sl_rw (l := twoT) (fun j hj => its_cell hB2 hj) (lt_of_blk hB2)
  exact bodyPost_ret (v := .agg #[.slice (some ⟨w.heap.size + 1, 0, none⟩) 3 3, .slice (some ⟨w.heap.size + 1 + 1, 0, none⟩) 4 4]) (by simp [results, Tryz.results30, go_sem]) rfl ⟨_, _, rfl, s1, s2, hb⟩
end Go.Proofs.YtfnmggmgdmokcaaGreat.Cm

