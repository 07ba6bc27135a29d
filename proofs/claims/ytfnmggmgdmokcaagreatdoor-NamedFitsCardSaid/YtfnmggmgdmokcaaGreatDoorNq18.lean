/- Merged texts: Rn1, Cm15, Cn2, LiP, Li1, Li2. -/
import Derived.Test.YtfnmggmgdmokcaaGreatDoorNq17
import Derived.Test.YtfnmggmgdmokcaaGreatDoorKit
import Derived.Lib.FieldsP
import Derived.Lib.SplitLaws
import Derived.Lib.Strings
import Derived.Lib.SpaceUEq
import Derived.Shelf.GgClosure.StringsTrimFunc
import Derived.Test.YtfnmggmgdmokcaaGreatDoorOpen
import Derived.Deep.OwnRows
set_option linter.unusedVariables false
/- The references of layers 6, 7, 24: a topology that may be, of few threads; a thread's leaf, by its place; how many threads a leaf has. -/
namespace Go.Proofs.YtfnmggmgdmokcaaGreatDoor.Rn
open Go.RowKit Go.Proofs.YtfnmggmgdmokcaaGreatDoor.Tp Go.Proofs.YtfnmggmgdmokcaaGreatDoor.Li Go.Proofs.YtfnmggmgdmokcaaGreatDoor.De Go.Proofs.YtfnmggmgdmokcaaGreatDoor.Ara

section
variable (p t : List Int) (A B : Option Addr) (c d : Nat) (w : World) (hs : Sl w w.heap.size A (p.flatMap decI)) (ht : Sl w w.heap.size B (t.flatMap decI))
include hs ht
end
end Go.Proofs.YtfnmggmgdmokcaaGreatDoor.Rn

/- The law's made: a lock of any two kinds, of a topology that may be. -/
namespace Go.Proofs.YtfnmggmgdmokcaaGreatDoor.Cm
open Go.RowKit Go.Proofs.YtfnmggmgdmokcaaGreatDoor.Tp Go.Proofs.YtfnmggmgdmokcaaGreatDoor.Ara Go.Proofs.YtfnmggmgdmokcaaGreatDoor.Lok Go.Proofs.YtfnmggmgdmokcaaGreatDoor.Fl Go.Proofs.YtfnmggmgdmokcaaGreatDoor.Co

theorem nw_ok {p t : List Int} (hck : chk p t = 0) {kg kl par bud : Int} (hg : 1 ≤ kg ∧ kg ≤ 5) (hl : 1 ≤ kl ∧ kl ≤ 5) (hp : 1 ≤ par ∧ par ≤ 32) (hb : 0 ≤ bud) : (nwOf p t kg kl par bud).Ok := by
  obtain ⟨l1, l2, l3, l4⟩ := chk_len hck
  have hpos : 1 ≤ (lvs p).length := List.length_pos_iff.2 (lvs_ne (chk_ok hck).2.1 l1)
  have hLL := lvs_len p
  refine ⟨⟨hg, ⟨hpos, by show (lvs p).length ≤ 32; omega⟩, fun _ => ⟨hp.1, by show par ≤ 1024; omega⟩, fun _ => hp⟩, fun n _ => ⟨hl, ⟨?_, ?_⟩, fun _ => ⟨hp.1, by show par ≤ 1024; omega⟩, fun _ => hp⟩, fun k hk => ?_, fun a b ha hb h1 h2 => nd_inj hck ha hb h1 h2, hb⟩
  · show 1 ≤ max 1 (mtI p t n)
    omega
  · show max 1 (mtI p t n) ≤ 32
    have := mt_le p t n
    omega
  · obtain ⟨h1, h2⟩ := nd_lt hck hk
    refine ⟨h1, ?_⟩
    show slI t k < max 1 (mtI p t (ndI p t k))
    omega
def MdW (w : World) (rb pb : Nat) (x y : Value) (k0 k1 k2 k3 : Int) (W : World) : Prop :=
  Bx w W x y ∧ W.heap[rb]? = some (.cells #[.int .i64 0, .int .i64 0, .int .i64 0, .int .i64 0] 23 (0, 0)) ∧ W.heap[pb]? = some (.cells #[.int .i64 k0, .int .i64 k1, .int .i64 k2, .int .i64 k3] 23 (0, 0))
theorem MdW.made (w : World) (x y : Value) (k0 k1 k2 k3 : Int) (arr : Array Value) (T : TypeId) : MdW w (w.heap.size + 1 + 1) (w.heap.size + 1 + 1 + 1) x y k0 k1 k2 k3 ((((w.alloc (.cells #[x, y] 33)).alloc (.cells arr T)).alloc (.cells #[.int .i64 0, .int .i64 0, .int .i64 0, .int .i64 0] 23)).alloc (.cells #[.int .i64 k0, .int .i64 k1, .int .i64 k2, .int .i64 k3] 23)) := by
  have h1 := Bx.made w x y 33
  have h2 := ((h1.step (below_new _ (.cells arr T))).step (below_new _ (.cells #[.int .i64 0, .int .i64 0, .int .i64 0, .int .i64 0] 23))).step (below_new _ (.cells #[.int .i64 k0, .int .i64 k1, .int .i64 k2, .int .i64 k3] 23))
  refine ⟨h2, ?_, ?_⟩
  · refine blk_alloc ?_ _
    have := blk_new ((w.alloc (.cells #[x, y] 33)).alloc (.cells arr T)) (.cells #[.int .i64 0, .int .i64 0, .int .i64 0, .int .i64 0] 23)
    simpa using this
  · have := blk_new (((w.alloc (.cells #[x, y] 33)).alloc (.cells arr T)).alloc (.cells #[.int .i64 0, .int .i64 0, .int .i64 0, .int .i64 0] 23)) (.cells #[.int .i64 k0, .int .i64 k1, .int .i64 k2, .int .i64 k3] 23)
    simpa using this
theorem MdW.step {w W V : World} {rb pb : Nat} {x y : Value} {k0 k1 k2 k3 : Int} (h : MdW w rb pb x y k0 k1 k2 k3 W) (b : Below W.heap.size W V) : MdW w rb pb x y k0 k1 k2 k3 V :=
  ⟨h.1.step b, (Mod.of_below (S := []) b).blk h.2.1 (by simp), (Mod.of_below (S := []) b).blk h.2.2 (by simp)⟩
section
variable (p t : List Int) (A B : Option Addr) (c d : Nat) (w : World) (hs : Sl w w.heap.size A (p.flatMap decI)) (ht : Sl w w.heap.size B (t.flatMap decI)) (n0 n1 n2 : Int) (h0 : 0 ≤ n0 ∧ n0 ≤ 255) (h1 : 0 ≤ n1 ∧ n1 ≤ 255) (h2 : 0 ≤ n2 ∧ n2 ≤ 255) (fifo : Bool)
include hs ht h0 h1 h2
end
end Go.Proofs.YtfnmggmgdmokcaaGreatDoor.Cm

/- Package cohort: New, whatever it is asked for. -/
namespace Go.Proofs.YtfnmggmgdmokcaaGreatDoor.Cm
open Go.RowKit Go.Proofs.YtfnmggmgdmokcaaGreatDoor.Tp Go.Proofs.YtfnmggmgdmokcaaGreatDoor.Ara Go.Proofs.YtfnmggmgdmokcaaGreatDoor.Lok Go.Proofs.YtfnmggmgdmokcaaGreatDoor.Fl Go.Proofs.YtfnmggmgdmokcaaGreatDoor.Co

section
variable (p t : List Int) (A B : Option Addr) (c d : Nat) (w : World) (hs : Sl w w.heap.size A (p.flatMap decI)) (ht : Sl w w.heap.size B (t.flatMap decI))
include hs ht
set_option maxRecDepth 100000 in
theorem check_all : Calls Tryz.prog 32 #[(.agg #[.slice A p.length c, .slice B t.length d])] w fun e w' => e = .returned (.int .i64 (chk p t)) ∧ Below w.heap.size w w' := by
  by_cases k2 : 32 < p.length
  · have i1 : ¬ (p.length : Int) < 1 := by omega
    have i2 : (32 : Int) < (p.length : Int) := by omega
    have HN := Lib.hid (chk_many (p := p) (t := t) (.inr (.inl k2)))
    go_enter Tryz.func32, Tryz.ntmps32
    go_upto_region 1 with fail
    have HX := Lib.hid (Bx.made w (.slice A p.length c) (.slice B t.length d) 33)
    generalize w.alloc (.cells #[.slice A p.length c, .slice B t.length d] 33) = W0 at *
    have c0 := HX.out.2.2.1
    have c1 := HX.out.2.2.2
    go_quiet (fail)
    go_wp2_with fail
    go_ret
    exact ⟨by rw [HN.out]; rfl, below_drewN HX.out.1 _⟩
  by_cases k4 : 32 < t.length
  · by_cases k1 : p.length < 1
    · have i1 : (p.length : Int) < 1 := by omega
      have HN := Lib.hid (chk_many (p := p) (t := t) (.inl k1))
      go_enter Tryz.func32, Tryz.ntmps32
      go_upto_region 1 with fail
      have HX := Lib.hid (Bx.made w (.slice A p.length c) (.slice B t.length d) 33)
      generalize w.alloc (.cells #[.slice A p.length c, .slice B t.length d] 33) = W0 at *
      have c0 := HX.out.2.2.1
      have c1 := HX.out.2.2.2
      go_quiet (fail)
      go_wp2_with fail
      go_ret
      exact ⟨by rw [HN.out]; rfl, below_drewN HX.out.1 _⟩
    · have i1 : ¬ (p.length : Int) < 1 := by omega
      have i2 : ¬ (32 : Int) < (p.length : Int) := by omega
      have i3 : ¬ (t.length : Int) < 1 := by omega
      have i4 : (32 : Int) < (t.length : Int) := by omega
      have HN := Lib.hid (chk_many (p := p) (t := t) (.inr (.inr (.inr k4))))
      go_enter Tryz.func32, Tryz.ntmps32
      go_upto_region 1 with fail
      have HX := Lib.hid (Bx.made w (.slice A p.length c) (.slice B t.length d) 33)
      generalize w.alloc (.cells #[.slice A p.length c, .slice B t.length d] 33) = W0 at *
      have c0 := HX.out.2.2.1
      have c1 := HX.out.2.2.2
      go_quiet (fail)
      go_wp2_with fail
      go_ret
      exact ⟨by rw [HN.out]; rfl, below_drewN HX.out.1 _⟩
  exact check_any p t A B c d w (by omega) (by omega) hs ht
set_option maxRecDepth 100000 in
theorem pnew_no (h : chk p t ≠ 0) : Calls Tryz.prog 23 #[(.agg #[.slice A p.length c, .slice B t.length d])] w fun e w' => e = .returned (.tuple #[.pointer none, .int .i64 (chk p t)]) ∧ Below w.heap.size w w' := by
  have HCK := Lib.hid (fun W h1 h2 => check_all p t A B c d W h1 h2)
  have HS := Lib.hid hs
  have HT := Lib.hid ht
  have q := ibne h
  clear hs ht h
  generalize chk p t = er at *
  go_enter Tryz.func23, Tryz.ntmps23
  go_upto_region 1 with fail
  have HX := Lib.hid (Bx.made w (.slice A p.length c) (.slice B t.length d) 33)
  generalize w.alloc (.cells #[.slice A p.length c, .slice B t.length d] 33) = W0 at *
  have c0 := HX.out.2.2.1
  have c1 := HX.out.2.2.2
  go_wp2_with fail
  refine (HCK.out _ (HX.out.sl HS.out) (HX.out.sl HT.out)).mono ?_
  rintro e W1 ⟨rfl, b1⟩
  have HX1 := Lib.hid (HX.out.step b1)
  clear c0 c1 HX b1 HCK
  go_wp2_with fail
  go_ret2
  exact ⟨rfl, HX1.out.1⟩
set_option maxRecDepth 100000 in
theorem new_no (h : chk p t ≠ 0) (q9 : Option Addr) (kg kl par bud : Int) : Calls Tryz.prog 11 #[.pointer q9, (.agg #[.slice A p.length c, .slice B t.length d]), .agg #[.int .i64 kg, .int .i64 kl, .int .i64 par, .int .i64 bud]] w fun e w' => e = .returned (.tuple #[.pointer none, .int .i64 (chk p t)]) ∧ Below w.heap.size w w' := by
  have HPN := Lib.hid (fun W h1 h2 => pnew_no p t A B c d W h1 h2 h)
  have HS := Lib.hid hs
  have HT := Lib.hid ht
  have q := ibne h
  clear hs ht h
  generalize chk p t = er at *
  go_enter Tryz.func11, Tryz.ntmps11
  go_upto_region 1 with fail
  have HX := Lib.hid ((Bx.made w (.slice A p.length c) (.slice B t.length d) 33).step (below_new _ (.cells #[.int .i64 kg, .int .i64 kl, .int .i64 par, .int .i64 bud] 23)))
  generalize (w.alloc (.cells #[.slice A p.length c, .slice B t.length d] 33)).alloc (.cells #[.int .i64 kg, .int .i64 kl, .int .i64 par, .int .i64 bud] 23) = W0 at *
  have c0 := HX.out.2.2.1
  have c1 := HX.out.2.2.2
  go_wp2_with fail
  refine (HPN.out _ (HX.out.sl HS.out) (HX.out.sl HT.out)).mono ?_
  rintro e W1 ⟨rfl, b1⟩
  have HX1 := Lib.hid (HX.out.step b1)
  clear c0 c1 HX b1 HPN
  go_wp2_with fail
  go_ret2
  exact ⟨rfl, HX1.out.1⟩
end
theorem ok_of {p t : List Int} (hck : chk p t = 0) {kg kl par bud : Int} (hg : mayK kg (lvs p).length par) (hl : ∀ k, k < (lvs p).length → mayK kl (max 1 (mtI p t k)) par) (hb : 0 ≤ bud) : (nwOf p t kg kl par bud).Ok := by
  refine ⟨hg, hl, fun k hk => ?_, fun a b ha hb h1 h2 => nd_inj hck ha hb h1 h2, hb⟩
  obtain ⟨h1, h2⟩ := nd_lt hck hk
  refine ⟨h1, ?_⟩
  show slI t k < max 1 (mtI p t (ndI p t k))
  omega
theorem args_of {kind : Int} {n : Nat} {par : Int} (h : mayK kind n par) : argsOk kind n par := ⟨by have := h.2.1; omega, h.2.2⟩
theorem okN_of {c : Nw} (O : c.Ok) {K : Nat} (h : K ≤ c.NN) : OkN c K := ⟨O.g, fun n hn => O.l n (by omega)⟩
theorem first_no {f : Nat → Nat} {M : Nat} : ∀ {N : Nat}, f 0 ≤ M → ¬ f N ≤ M → ∃ K, K < N ∧ f K ≤ M ∧ ¬ f (K + 1) ≤ M
  | 0, h0, hN => absurd h0 hN
  | N + 1, h0, hN => by
    by_cases h : f N ≤ M
    · exact ⟨N, Nat.lt_succ_self N, h, hN⟩
    · obtain ⟨K, h1, h2, h3⟩ := first_no h0 h
      exact ⟨K, by omega, h2, h3⟩
section
variable (p t : List Int) (A B : Option Addr) (c d : Nat) (w : World) (hck : chk p t = 0) (hs : Sl w w.heap.size A (p.flatMap decI)) (ht : Sl w w.heap.size B (t.flatMap decI)) (ga ha : Nat) (σ : Ar) (hA : ArAt w ga ha σ) (hha : ha < w.heap.size) (hne : ga ≠ ha) (kg kl par bud : Int) (hB : Bud.right bud = true) (hl : σ.t ≤ σ.ws.length) (hw : σ.ws.length ≤ 4096) (ho : σ.ops ≤ 1000)
include hck hs ht hA hha hne hB hl hw ho
theorem new_full (O : (nwOf p t kg kl par bud).Ok) (hx : ¬ (nwOf p t kg kl par bud).tN σ.t (lvs p).length ≤ σ.ws.length) :
    Calls Tryz.prog 11 #[.pointer (some ⟨ga, 0, none⟩), (.agg #[.slice A p.length c, .slice B t.length d]), .agg #[.int .i64 kg, .int .i64 kl, .int .i64 par, .int .i64 bud]] w (NErr 3 ga ha w) := by
  by_cases h0 : (nwOf p t kg kl par bud).tN σ.t 0 ≤ σ.ws.length
  · obtain ⟨K, hK, h1, h2⟩ := first_no h0 hx
    by_cases h3 : (nwOf p t kg kl par bud).tN σ.t K + sizeK kl (max 1 (mtI p t K)) par ≤ σ.ws.length
    · exact new_te p t A B c d w hck hs ht ga ha σ hA hha hne kg kl par bud hB K hK (okN_of O hK) h3 h2 hw ho
    · have ON := okN_of O (Nat.le_of_lt hK)
      obtain ⟨g, e⟩ := σ_grK ON h1 K (Nat.le_refl _)
      exact new_le p t A B c d w hck hs ht ga ha σ hA hha hne kg kl par bud hB K hK 3 (by decide) ON h1 hw ho (fun W hW => pfull kl (max 1 (mtI p t K)) par (O.l K hK) ga ha _ W hW g.hl (by rw [e, g.len]; exact h3))
  · exact new_ge p t A B c d w hck hs ht ga ha σ hA hha kg kl par bud hB 3 (by decide) (fun W hW => pfull kg (lvs p).length par O.g ga ha σ W hW hl h0)
def NwR (p t : List Int) (kg kl par bud : Int) (σ : Ar) (ga ha : Nat) (w : World) (e : Ending) (w' : World) : Prop :=
  ((nwOf p t kg kl par bud).Ok ∧ (nwOf p t kg kl par bud).tN σ.t (lvs p).length ≤ σ.ws.length ∧ NewC (nwOf p t kg kl par bud) σ ga ha w e w') ∨ ¬ ((nwOf p t kg kl par bud).Ok ∧ (nwOf p t kg kl par bud).tN σ.t (lvs p).length ≤ σ.ws.length) ∧ ∃ er, er ≠ 0 ∧ NErr er ga ha w e w'
theorem new_right : Calls Tryz.prog 11 #[.pointer (some ⟨ga, 0, none⟩), (.agg #[.slice A p.length c, .slice B t.length d]), .agg #[.int .i64 kg, .int .i64 kl, .int .i64 par, .int .i64 bud]] w (NwR p t kg kl par bud σ ga ha w) := by
  obtain ⟨l1, l2, l3, l4⟩ := chk_len hck
  have hLL := lvs_len p
  have hpos : 1 ≤ (lvs p).length := List.length_pos_iff.2 (lvs_ne (chk_ok hck).2.1 l1)
  have hb := (Bud.right_iff.1 hB).1
  have bad : ¬ ((nwOf p t kg kl par bud).Ok ∧ (nwOf p t kg kl par bud).tN σ.t (lvs p).length ≤ σ.ws.length) → ∀ {er : Int}, er ≠ 0 → Calls Tryz.prog 11 #[.pointer (some ⟨ga, 0, none⟩), (.agg #[.slice A p.length c, .slice B t.length d]), .agg #[.int .i64 kg, .int .i64 kl, .int .i64 par, .int .i64 bud]] w (NErr er ga ha w) → Calls Tryz.prog 11 #[.pointer (some ⟨ga, 0, none⟩), (.agg #[.slice A p.length c, .slice B t.length d]), .agg #[.int .i64 kg, .int .i64 kl, .int .i64 par, .int .i64 bud]] w (NwR p t kg kl par bud σ ga ha w) :=
    fun hn {er} he h => h.mono fun e w' h => .inr ⟨hn, er, he, h⟩
  by_cases hkg : 1 ≤ kg ∧ kg ≤ 5
  · by_cases hag : argsOk kg (lvs p).length par
    · have hG := may_of hkg hag
      by_cases hr : (nwOf p t kg kl par bud).tN σ.t 0 ≤ σ.ws.length
      · have hO0 : OkN (nwOf p t kg kl par bud) 0 := ⟨hG, fun n hn => absurd hn (Nat.not_lt_zero n)⟩
        have hs0 : (nwOf p t kg kl par bud).σN σ 0 = (tak kg (lvs p).length par σ).1 := rfl
        by_cases hkl : 1 ≤ kl ∧ kl ≤ 5
        · by_cases hal : argsOk kl (max 1 (mtI p t 0) : Nat) par
          · have hL : ∀ k, k < (lvs p).length → mayK kl (max 1 (mtI p t k)) par := fun k _ => may_of hkl ⟨by have := mt_le p t k; omega, hal.2.1, hal.2.2⟩
            have O := ok_of hck hG hL hb
            by_cases hx : (nwOf p t kg kl par bud).tN σ.t (lvs p).length ≤ σ.ws.length
            · exact (new_co p t A B c d w hck hs ht ga ha σ hA hha hne kg kl par bud O hB hx hw ho).mono fun e w' h => .inl ⟨O, hx, h⟩
            · exact bad (fun h => hx h.2) (by decide) (new_full p t A B c d w hck hs ht ga ha σ hA hha hne kg kl par bud hB hl hw ho O hx)
          · exact bad (fun h => hal (args_of (h.1.l 0 hpos))) (by decide) (new_le p t A B c d w hck hs ht ga ha σ hA hha hne kg kl par bud hB 0 hpos 1 (by decide) hO0 hr hw ho (fun W hW => (pbad _ kl _ par hkl hal W).mono fun e w' h => ⟨h.1, by rw [h.2]; exact hW, by rw [h.2]; exact Mod.refl _ _⟩))
        · exact bad (fun h => hkl (h.1.l 0 hpos).1) (by decide) (new_le p t A B c d w hck hs ht ga ha σ hA hha hne kg kl par bud hB 0 hpos 7 (by decide) hO0 hr hw ho (fun W hW => (pnewK _ kl _ par (by omega) W).mono fun e w' h => ⟨h.1, by rw [h.2]; exact hW, by rw [h.2]; exact Mod.refl _ _⟩))
      · exact bad (fun h => hr (Nat.le_trans ((nwOf p t kg kl par bud).tN_le σ.t (Nat.zero_le _)) h.2)) (by decide) (new_ge p t A B c d w hck hs ht ga ha σ hA hha kg kl par bud hB 3 (by decide) (fun W hW => pfull kg (lvs p).length par hG ga ha σ W hW hl hr))
    · exact bad (fun h => hag (args_of h.1.g)) (by decide) (new_ge p t A B c d w hck hs ht ga ha σ hA hha kg kl par bud hB 1 (by decide) (fun W hW => (pbad _ kg _ par hkg hag W).mono fun e w' h => ⟨h.1, by rw [h.2]; exact hW, by rw [h.2]; exact Mod.refl _ _⟩))
  · exact bad (fun h => hkg h.1.g.1) (by decide) (new_ge p t A B c d w hck hs ht ga ha σ hA hha kg kl par bud hB 7 (by decide) (fun W hW => (pnewK _ kg _ par (by omega) W).mono fun e w' h => ⟨h.1, by rw [h.2]; exact hW, by rw [h.2]; exact Mod.refl _ _⟩))
end
end Go.Proofs.YtfnmggmgdmokcaaGreatDoor.Cm

/- Lines and words of a text, as Lean lists of bytes: what the reference computes, and what the program's library calls compute, are the same. -/
namespace Go.Proofs.YtfnmggmgdmokcaaGreatDoor.Li
open Go.Lib

abbrev B (l : List UInt8) : ByteArray := ⟨l.toArray⟩
abbrev L (s : ByteArray) : List UInt8 := s.data.toList
theorem L_B (l : List UInt8) : L (B l) = l := rfl
theorem B_L (s : ByteArray) : B (L s) = s := Lib.mk_data s
theorem L_inj {s t : ByteArray} (h : L s = L t) : s = t := by rw [← B_L s, ← B_L t, h]
theorem size_L (s : ByteArray) : s.size = (L s).length := Lib.size_eq s
theorem size_B (l : List UInt8) : (B l).size = l.length := size_L (B l)

def nb (c : UInt8) : Bool := c == 32 || c == 9
def headW (l : List UInt8) : List UInt8 := (l.dropWhile nb).takeWhile fun c => !nb c
def headR (l : List UInt8) : List UInt8 := (l.dropWhile nb).dropWhile fun c => !nb c
def wordsF : Nat → List UInt8 → List (List UInt8)
  | 0, _ => []
  | f + 1, l => if headW l = [] then [] else headW l :: wordsF f (headR l)
def words (l : List UInt8) : List (List UInt8) := wordsF (l.length + 1) l
def fl : Option (List UInt8) → List UInt8 → List (List UInt8)
  | none, [] => []
  | some w, [] => [w]
  | none, b :: t => if nb b then fl none t else fl (some [b]) t
  | some w, b :: t => if nb b then w :: fl none t else fl (some (w ++ [b])) t
def cut (c : UInt8) : List UInt8 → List UInt8 → List (List UInt8)
  | cur, [] => [cur]
  | cur, b :: t => if b = c then cur :: cut c [] t else cut c (cur ++ [b]) t
theorem len_split (p : UInt8 → Bool) (l : List UInt8) : (l.takeWhile p).length + (l.dropWhile p).length = l.length := by
  conv => rhs; rw [← List.takeWhile_append_dropWhile (p := p) (l := l)]
  rw [List.length_append]
/-! runes and bytes -/
theorem drop_cons (l : List UInt8) (pos : Nat) (h : pos < l.length) : l.drop pos = l.getD pos 0 :: l.drop (pos + 1) := by
  rw [List.drop_eq_getElem_cons h]
  congr 1
  simp [List.getD, h]
theorem skip (p : UInt8 → Bool) : ∀ (k : Nat) (l : List UInt8), k ≤ l.length → (∀ j, j < k → p (l.getD j 0) = true) →
    l.takeWhile p = l.take k ++ (l.drop k).takeWhile p ∧ l.dropWhile p = (l.drop k).dropWhile p
  | 0, l, _, _ => by simp
  | k + 1, [], h, _ => by simp at h
  | k + 1, b :: t, h, hz => by
    have h0 : p b = true := by simpa using hz 0 (by omega)
    have ih := skip p k t (by simpa using h) (fun j hj => by simpa using hz (j + 1) (by omega))
    rw [List.takeWhile_cons_of_pos h0, List.dropWhile_cons_of_pos h0, ih.1, ih.2]
    simp
/-! lines -/
theorem index_cons (b c : UInt8) (t : List UInt8) : Lib.index (b :: t) [c] = if b = c then 0 else if Lib.index t [c] = -1 then -1 else Lib.index t [c] + 1 := by
  rw [Lib.index]
  have : ([c].isPrefixOf (b :: t)) = (c == b) := by simp [List.isPrefixOf]
  rw [this]
  by_cases h : b = c
  · subst h; simp
  · have h' : ¬ c = b := fun e => h e.symm
    simp [h, h']
theorem split_cut (c : UInt8) : ∀ (l cur : List UInt8), splitK [c] 0 (Lib.count l [c]) l = cut c [] l ∧
    cut c cur l = match cut c [] l with | [] => [] | x :: r => (cur ++ x) :: r := by
  intro l
  induction l with
  | nil =>
    intro cur
    constructor
    · show splitK [c] 0 _ [] = [[]]
      cases Lib.count [] [c] with
      | zero => rfl
      | succ n => simp [splitK, Lib.index]
    · simp [cut]
  | cons b t ih =>
    intro cur
    have i1 := (ih []).1
    by_cases h : b = c
    · subst h
      refine ⟨?_, by simp [cut]⟩
      rw [count_cons_eq, Nat.add_comm, splitK, index_cons, if_pos rfl]
      simp only [cut, if_true]
      rw [← i1]
      simp
    · refine ⟨?_, ?_⟩
      · rw [count_cons_ne _ _ _ h]
        simp only [cut, h, if_false, List.nil_append]
        rw [(ih [b]).2, ← i1]
        cases hk : Lib.count t [c] with
        | zero => simp [splitK]
        | succ n =>
          rw [splitK, splitK, index_cons, if_neg h]
          by_cases hi : Lib.index t [c] = -1
          · simp [hi]
          · have hge := Lib.index_ge t [c]
            rw [if_neg hi, if_neg (by simp; omega), if_neg (by simpa using hi)]
            simp only
            rw [show (Lib.index t [c] + 1).toNat + 0 = (Lib.index t [c]).toNat + 0 + 1 by omega, show (Lib.index t [c] + 1).toNat + [c].length = (Lib.index t [c]).toNat + [c].length + 1 by omega]
            simp
      · simp only [cut, h, if_false, List.nil_append]
        rw [(ih (cur ++ [b])).2, (ih [b]).2]
        cases cut c [] t with
        | nil => rfl
        | cons x r => simp
theorem split_L (s : ByteArray) (c : UInt8) : splitB (B [c]) 0 (countB s (B [c])) s = (cut c [] (L s)).map B := by
  have h := Lib.splitB_data (B [c]) 0 (countB s (B [c])) s
  have h2 : countB s (B [c]) = Lib.count (L s) [c] := rfl
  change _ = splitK [c] 0 (countB s (B [c])) (L s) at h
  rw [h2, (split_cut c (L s) []).1] at h
  rw [h2, ← h, List.map_map]
  conv => lhs; rw [← List.map_id (splitB _ _ _ _)]
  apply List.map_congr_left
  intro x _
  exact (B_L x).symm

end Go.Proofs.YtfnmggmgdmokcaaGreatDoor.Li

/- Walks over texts: blanks, the first word. -/
namespace Go.Proofs.YtfnmggmgdmokcaaGreatDoor.Li
open Go.RowKit

abbrev vS (l : List UInt8) : Value := .string (B l)
theorem getD_at {l : List UInt8} {j : Nat} (h : j < l.length) : l.getD j 0 = l[j] := by simp only [List.getD, List.getElem?_eq_getElem h, Option.getD_some]
theorem ix_str (s : ByteArray) (i : Nat) (h : i < s.size) (W : World) : (Instr.index 9 (.string s) (.int .i64 (i : Int))).run Tryz.prog W = .ok (.int .u8 (((L s).getD i 0).toNat : Int)) W := by
  rw [run_index_string W _ s .i64 i Tryz.underlying9, dif_pos ⟨by omega, by omega⟩]
  have : s[((i : Int)).toNat]'(by omega) = (L s).getD i 0 := by
    have hl : i < (L s).length := by rw [← size_L]; exact h
    simp only [Int.toNat_natCast, List.getD, List.getElem?_eq_getElem hl, Option.getD_some]
    rfl
  rw [this]

end Go.Proofs.YtfnmggmgdmokcaaGreatDoor.Li

/- Walks of the reference over texts: the words, the lines, the text, texts compared. -/
namespace Go.Proofs.YtfnmggmgdmokcaaGreatDoor.Li
open Go.RowKit

theorem infoS : (Tryz.prog.info? 9).map (fun i => (i.zero, i.size, i.bytes)) = some (some (.string ⟨#[]⟩), 1, 16) := by kernel_rfl
theorem app_B (x y : List UInt8) : B x ++ B y = B (x ++ y) := L_inj (by rw [L_B]; simp [L, B])
theorem sl_str {w : World} {Bd : Nat} {A : Option Addr} {ls : List (List UInt8)} (h : Sl w Bd A (ls.map vS)) {k : Nat} (hk : k < ls.length) : ∃ b off, A = some ⟨b, off, none⟩ ∧ b < Bd ∧ ∀ j (h : j < ls.length), w.cell? ⟨b, off + j, none⟩ = some (vS ls[j]) := by
  obtain ⟨b, off, h1, h2, h3⟩ := h.at_ (by rw [List.length_map]; omega)
  refine ⟨b, off, h1, h2, fun j hj => ?_⟩
  have := h3 j (by rw [List.length_map]; exact hj)
  rw [List.getElem_map] at this
  exact this
set_option maxHeartbeats 4000000 in
theorem rsame_any (l k : List (List UInt8)) (A C : Option Addr) (c1 c2 : Nat) (w : World) (hm : l.length ≤ 4096) (hm2 : k.length ≤ 4096)
    (hs : Sl w w.heap.size A (l.map vS)) (ht : Sl w w.heap.size C (k.map vS)) :
    Calls Tryz.prog 14 #[.slice A l.length c1, .slice C k.length c2] w fun e w' => e = .returned (.bool (decide (l = k))) ∧ ∃ n, w' = w.drewN n := by
  by_cases hl : l.length = k.length
  · have hlb := nbeq hl
    have hlb2 := nbne_no hl
    have HL := Lib.hid hl
    clear hl
    go_enter Tryz.func14, Tryz.ntmps14
    go_wp2_with fail
    go_loopw [5] (fun i wr => ∃ j : Nat, j ≤ l.length ∧ i = .int .i64 j ∧ l.take j = k.take j ∧ ∃ n, wr = w.drewN n) (fun i _ => l.length - (intOf i).toNat)
    case atStart => exact ⟨0, by omega, rfl, rfl, 0, rfl⟩
    case round =>
      obtain ⟨j, hj, rfl, hjt, q, rfl⟩ := hrel
      have HJ := Lib.hid hjt
      clear hjt
      by_cases hlt : j < l.length
      · have hlt2 : j < k.length := by have := HL.out; omega
        obtain ⟨b, off, rfl, hbb, hcell⟩ := sl_str hs hlt
        obtain ⟨b', off', rfl, hbb', hcell'⟩ := sl_str ht hlt2
        have h0 : (w.drewN q).cell? _ = _ := hcell j hlt
        have g0 : (w.drewN q).cell? _ = _ := hcell' j hlt2
        clear hcell hcell'
        have i1 : (j : Int) < (k.length : Int) := by omega
        have i0 : (j : Int) < (l.length : Int) := by omega
        have hnx := Lib.hid (show l[j] = k[j] → l.take (j + 1) = k.take (j + 1) by
          intro h
          rw [List.take_succ_eq_append_getElem hlt, List.take_succ_eq_append_getElem hlt2, HJ.out, h])
        have hno := Lib.hid (show ¬ l[j] = k[j] → decide (l = k) = false by
          intro h
          rw [decide_eq_false_iff_not]
          rintro rfl
          exact h rfl)
        generalize l[j] = x at *
        generalize k[j] = y at *
        generalize hw1 : w.drewN q = w1 at *
        have HW1 := Lib.hid hw1
        clear hw1
        by_cases hn : x = y
        · have q := beq_iff_eq.2 hn
          have HN := Lib.hid (hnx.out hn)
          clear hn
          go_wp2_with fail
          go_quiet (fail)
          go_wp2
          go_roundw
          case rel => exact ⟨j + 1, by omega, by go_num, HN.out, _, by rw [← HW1.out, World.drewN_drewN]⟩
          case measure => simp [intOf]; omega
        · have q := beq_eq_false_iff_ne.2 hn
          have HN := Lib.hid (hno.out hn)
          clear hn
          go_wp2_with fail
          go_quiet (fail)
          go_wp2
          go_ret
          exact ⟨by rw [HN.out]; rfl, _, by rw [← HW1.out, World.drewN_drewN]⟩
      · have he := Lib.hid (show decide (l = k) = true by
          rw [decide_eq_true_iff]
          have := HJ.out
          rwa [List.take_of_length_le (by omega), List.take_of_length_le (by have := HL.out; omega)] at this)
        go_wp2
        go_ret
        exact ⟨by rw [he.out]; rfl, q, rfl⟩
  · have hlb2 := nbne hl
    have hn := Lib.hid (show decide (l = k) = false by simp; rintro rfl; exact hl rfl)
    clear hl
    go_enter Tryz.func14, Tryz.ntmps14
    go_wp2
    go_ret
    exact ⟨by rw [hn.out]; rfl, 0, rfl⟩
end Go.Proofs.YtfnmggmgdmokcaaGreatDoor.Li

