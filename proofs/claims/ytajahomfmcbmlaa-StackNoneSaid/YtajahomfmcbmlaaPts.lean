/-
Structs of lists of numbers: points and certificates: twins, copies, comparisons.
-/
import Derived.Test.YtajahomfmcbmlaaRef3
import Derived.Test.YtajahomfmcbmlaaStack5
namespace Go.Proofs.Ytajahomfmcbmlaa.T
open Go.RowKit Go.Proofs.YtajahomfmcbmlaaW.PrintWords Go.Proofs.YtajahomfmcbmlaaW.PrintLast Go.Proofs.YtajahomfmcbmlaaW.PrintMore
set_option linter.unusedVariables false

/-- Four cells of a block, written. -/
abbrev set4 (W : World) (g : Nat) (x y z u : Value) : World := (((W.setCell ⟨g, 0, none⟩ x).setCell ⟨g, 1, none⟩ y).setCell ⟨g, 2, none⟩ z).setCell ⟨g, 3, none⟩ u
theorem set4_blk {W : World} {g : Nat} {a b c d : Value} {t : TypeId} (h : W.heap[g]? = some (.cells #[a, b, c, d] t (0, 0))) (x y z u : Value) : (set4 W g x y z u).heap[g]? = some (.cells #[x, y, z, u] t (0, 0)) :=
  blk_put (blk_put (blk_put (blk_put h 0 x rfl) 1 y rfl) 2 z rfl) 3 u rfl
theorem set4_below {b : Nat} {w W : World} {g : Nat} (h : Below b w W) (hg : b ≤ g) (x y z u : Value) : Below b w (set4 W g x y z u) := (((h.setCell hg _).setCell hg _).setCell hg _).setCell hg _
theorem Oq.set3 {w : World} {base b1 g : Nat} {v : Value} {xs : List Rw} (h : Oq w b1 v xs) (hb : base ≤ b1) (hg : g < b1) (x y z : Value) : Oq (set3 w g x y z) base v xs :=
  Kd.R_lower (Kd.R_mono (R_set3 (ok := fun k => k ≠ g) (Kd.R_mono (Kd.R_bound h) fun k hk => by have := hk.2.1; omega) (fun k hk => hk) x y z) fun k _ => trivial) hb
theorem Oq.set4 {w : World} {base b1 g : Nat} {v : Value} {xs : List Rw} (h : Oq w b1 v xs) (hb : base ≤ b1) (hg : g < b1) (x y z u : Value) : Oq (T.set4 w g x y z u) base v xs :=
  Kd.R_lower (Kd.R_mono (Kd.R_far (R_set3 (ok := fun k => k ≠ g) (Kd.R_mono (Kd.R_bound h) fun k hk => by have := hk.2.1; omega) (fun k hk => hk) x y z) (fun k hk => hk) _) fun k _ => trivial) hb

set_option maxRecDepth 10000 in
set_option maxHeartbeats 2000000 in
theorem ref11_Twin (A : Option Addr) (n0 c0 : Nat) (xs0 : List Rw) (B : Option Addr) (n1 c1 : Nat) (xs1 : List Rw) (C : Option Addr) (n2 c2 : Nat) (xs2 : List Rw) (w : World) (h0 : Lst w A xs0) (e0 : n0 = xs0.length) (h1 : Lst w B xs1) (e1 : n1 = xs1.length) (h2 : Lst w C xs2) (e2 : n2 = xs2.length) :
    Calls Try.prog 21 #[.agg #[.slice A n0 c0, .slice B n1 c1, .slice C n2 c2]] w fun e w' => ∃ v0 v1 v2, e = .returned (.agg #[v0, v1, v2]) ∧ Oq w' w.heap.size v0 xs0 ∧ Oq w' w.heap.size v1 xs1 ∧ Oq w' w.heap.size v2 xs2 ∧ Below w.heap.size w w' := by
  have E0 := Lib.hid e0
  clear e0
  have E1 := Lib.hid e1
  clear e1
  have E2 := Lib.hid e2
  clear e2
  go_enter Try.func21, Try.ntmps21
  go_wp2_with fail
  have hW0 : ∀ o1 o2, Below w.heap.size w ((w.alloc o1).alloc o2).drew := fun o1 o2 => (Below.alloc (Below.alloc (Below.refl _ _) (Nat.le_refl _) _) (by simp) _).drew
  go_region_held3 (fun w' => w'.cell? ⟨w.heap.size, 0, none⟩ = some (.slice A n0 c0) ∧ w'.cell? ⟨w.heap.size, 1, none⟩ = some (.slice B n1 c1) ∧ w'.cell? ⟨w.heap.size, 2, none⟩ = some (.slice C n2 c2)) (first | exact hS2 | exact hS1 | exact hS0 | go_keep)
    (first
      | (go_at_call_of 26 A; refine (ref3_Twins A n0 c0 xs0 _ E0.out h0.small (by have := h0.short; have := E0.out; omega) (h0.reads.below (hW0 _ _))).mono ?_; rintro e w10 ⟨v0, rfl, hv0, hb0⟩
         obtain ⟨A0, d0, rfl⟩ := Kd.R_slice hv0
         have hw10 := (hW0 _ _).trans (hb0.mono (hW0 _ _).size)
         have hx10 : w10.heap[w.heap.size]? = some (.cells #[.slice A n0 c0, .slice B n1 c1, .slice C n2 c2] 43 (0, 0)) := blk_below (blk_drew (blk_alloc (blk_new w _) _)) hb0
         have hy10 : w10.heap[w.heap.size + 1]? = some (.cells #[.slice none 0 0, .slice none 0 0, .slice none 0 0] 43 (0, 0)) := by have := blk_below (blk_drew (blk_new (w.alloc _) _)) hb0; simpa using this
         have hS0 := And.intro (blk_cell hx10 0) (And.intro (blk_cell hx10 1) (blk_cell hx10 2)))
      | (go_at_call_of 26 B; refine (ref3_Twins B n1 c1 xs1 _ E1.out h1.small (by have := h1.short; have := E1.out; omega) (h1.reads.below hw10)).mono ?_; rintro e w11 ⟨v1, rfl, hv1, hb1⟩
         obtain ⟨A1, d1, rfl⟩ := Kd.R_slice hv1
         have hw11 := hw10.trans (hb1.mono hw10.size)
         have hx11 := blk_below hx10 hb1
         have hy11 := blk_below hy10 hb1
         have hS1 := And.intro (blk_cell hx11 0) (And.intro (blk_cell hx11 1) (blk_cell hx11 2)))
      | (go_at_call_of 26 C; refine (ref3_Twins C n2 c2 xs2 _ E2.out h2.small (by have := h2.short; have := E2.out; omega) (h2.reads.below hw11)).mono ?_; rintro e w12 ⟨v2, rfl, hv2, hb2⟩
         obtain ⟨A2, d2, rfl⟩ := Kd.R_slice hv2
         have hw12 := hw11.trans (hb2.mono hw11.size)
         have hx12 := blk_below hx11 hb2
         have hy12 := blk_below hy11 hb2
         have hS2 := And.intro (blk_cell hx12 0) (And.intro (blk_cell hx12 1) (blk_cell hx12 2))
         have hz0 := blk_cell hy12 0
         have hz1 := blk_cell hy12 1
         have hz2 := blk_cell hy12 2
         have hf := blk_frozen hy12))
  go_wp2_with fail
  refine bodyPost_ret (results_cell_row rfl _ _ (w.heap.size + 1) 43 #[.slice A0 _ d0, .slice A1 _ d1, .slice A2 _ d2] (0, 0) _ rfl (set3_blk hy12 _ _ _) Try.underlying43 rfl (by kernel_rfl)) rfl ?_
  have hs0 : w.heap.size + 1 + 1 ≤ w10.heap.size := by simpa using hb0.size
  exact ⟨_, _, _, rfl, Oq.set3 (Kd.R_below (Kd.R_below hv0 hb1) hb2) (by simp; omega) (by simp) _ _ _, Oq.set3 (Kd.R_below hv1 hb2) (by have := hw10.size; omega) (by  omega) _ _ _, Oq.set3 hv2 (by have := hw11.size; omega) (by have := hb1.size; omega) _ _ _, set3_below hw12 (by omega) _ _ _⟩

set_option maxRecDepth 10000 in
set_option maxHeartbeats 2000000 in
theorem stack_point (A : Option Addr) (n0 c0 : Nat) (xs0 : List Rw) (B : Option Addr) (n1 c1 : Nat) (xs1 : List Rw) (C : Option Addr) (n2 c2 : Nat) (xs2 : List Rw) (w : World) (h0 : Lst w A xs0) (e0 : n0 = xs0.length) (h1 : Lst w B xs1) (e1 : n1 = xs1.length) (h2 : Lst w C xs2) (e2 : n2 = xs2.length) :
    Calls Try.prog 61 #[.agg #[.slice A n0 c0, .slice B n1 c1, .slice C n2 c2]] w fun e w' => ∃ v0 v1 v2, e = .returned (.agg #[v0, v1, v2]) ∧ Oq w' w.heap.size v0 xs0 ∧ Oq w' w.heap.size v1 xs1 ∧ Oq w' w.heap.size v2 xs2 ∧ Below w.heap.size w w' := by
  have E0 := Lib.hid e0
  clear e0
  have E1 := Lib.hid e1
  clear e1
  have E2 := Lib.hid e2
  clear e2
  go_enter Try.func61, Try.ntmps61
  go_wp2_with fail
  have hW0 : ∀ o1 o2, Below w.heap.size w ((w.alloc o1).alloc o2).drew := fun o1 o2 => (Below.alloc (Below.alloc (Below.refl _ _) (Nat.le_refl _) _) (by simp) _).drew
  go_region_held3 (fun w' => w'.cell? ⟨w.heap.size, 0, none⟩ = some (.slice A n0 c0) ∧ w'.cell? ⟨w.heap.size, 1, none⟩ = some (.slice B n1 c1) ∧ w'.cell? ⟨w.heap.size, 2, none⟩ = some (.slice C n2 c2)) (first | exact hS2 | exact hS1 | exact hS0 | go_keep)
    (first
      | (go_at_call_of 59 A; refine (calc_Copies A n0 c0 xs0 _ E0.out h0.small (by have := h0.short; have := E0.out; omega) (h0.reads.below (hW0 _ _))).mono ?_; rintro e w10 ⟨v0, rfl, hv0, hb0⟩
         obtain ⟨A0, d0, rfl⟩ := Kd.R_slice hv0
         have hw10 := (hW0 _ _).trans (hb0.mono (hW0 _ _).size)
         have hx10 : w10.heap[w.heap.size]? = some (.cells #[.slice A n0 c0, .slice B n1 c1, .slice C n2 c2] 43 (0, 0)) := blk_below (blk_drew (blk_alloc (blk_new w _) _)) hb0
         have hy10 : w10.heap[w.heap.size + 1]? = some (.cells #[.slice none 0 0, .slice none 0 0, .slice none 0 0] 43 (0, 0)) := by have := blk_below (blk_drew (blk_new (w.alloc _) _)) hb0; simpa using this
         have hS0 := And.intro (blk_cell hx10 0) (And.intro (blk_cell hx10 1) (blk_cell hx10 2)))
      | (go_at_call_of 59 B; refine (calc_Copies B n1 c1 xs1 _ E1.out h1.small (by have := h1.short; have := E1.out; omega) (h1.reads.below hw10)).mono ?_; rintro e w11 ⟨v1, rfl, hv1, hb1⟩
         obtain ⟨A1, d1, rfl⟩ := Kd.R_slice hv1
         have hw11 := hw10.trans (hb1.mono hw10.size)
         have hx11 := blk_below hx10 hb1
         have hy11 := blk_below hy10 hb1
         have hS1 := And.intro (blk_cell hx11 0) (And.intro (blk_cell hx11 1) (blk_cell hx11 2)))
      | (go_at_call_of 59 C; refine (calc_Copies C n2 c2 xs2 _ E2.out h2.small (by have := h2.short; have := E2.out; omega) (h2.reads.below hw11)).mono ?_; rintro e w12 ⟨v2, rfl, hv2, hb2⟩
         obtain ⟨A2, d2, rfl⟩ := Kd.R_slice hv2
         have hw12 := hw11.trans (hb2.mono hw11.size)
         have hx12 := blk_below hx11 hb2
         have hy12 := blk_below hy11 hb2
         have hS2 := And.intro (blk_cell hx12 0) (And.intro (blk_cell hx12 1) (blk_cell hx12 2))
         have hz0 := blk_cell hy12 0
         have hz1 := blk_cell hy12 1
         have hz2 := blk_cell hy12 2
         have hf := blk_frozen hy12))
  go_wp2_with fail
  refine bodyPost_ret (results_cell_row rfl _ _ (w.heap.size + 1) 43 #[.slice A0 _ d0, .slice A1 _ d1, .slice A2 _ d2] (0, 0) _ rfl (set3_blk hy12 _ _ _) Try.underlying43 rfl (by kernel_rfl)) rfl ?_
  have hs0 : w.heap.size + 1 + 1 ≤ w10.heap.size := by simpa using hb0.size
  exact ⟨_, _, _, rfl, Oq.set3 (Kd.R_below (Kd.R_below hv0 hb1) hb2) (by simp; omega) (by simp) _ _ _, Oq.set3 (Kd.R_below hv1 hb2) (by have := hw10.size; omega) (by  omega) _ _ _, Oq.set3 hv2 (by have := hw11.size; omega) (by have := hb1.size; omega) _ _ _, set3_below hw12 (by omega) _ _ _⟩

set_option maxRecDepth 10000 in
set_option maxHeartbeats 2000000 in
theorem ref12_Twin (A : Option Addr) (n0 c0 : Nat) (xs0 : List Rw) (B : Option Addr) (n1 c1 : Nat) (xs1 : List Rw) (C : Option Addr) (n2 c2 : Nat) (xs2 : List Rw) (D : Option Addr) (n3 c3 : Nat) (xs3 : List Rw) (w : World) (h0 : Lst w A xs0) (e0 : n0 = xs0.length) (h1 : Lst w B xs1) (e1 : n1 = xs1.length) (h2 : Lst w C xs2) (e2 : n2 = xs2.length) (h3 : Lst w D xs3) (e3 : n3 = xs3.length) :
    Calls Try.prog 17 #[.agg #[.slice A n0 c0, .slice B n1 c1, .slice C n2 c2, .slice D n3 c3]] w fun e w' => ∃ v0 v1 v2 v3, e = .returned (.agg #[v0, v1, v2, v3]) ∧ Oq w' w.heap.size v0 xs0 ∧ Oq w' w.heap.size v1 xs1 ∧ Oq w' w.heap.size v2 xs2 ∧ Oq w' w.heap.size v3 xs3 ∧ Below w.heap.size w w' := by
  have E0 := Lib.hid e0
  clear e0
  have E1 := Lib.hid e1
  clear e1
  have E2 := Lib.hid e2
  clear e2
  have E3 := Lib.hid e3
  clear e3
  go_enter Try.func17, Try.ntmps17
  go_wp2_with fail
  have hW0 : ∀ o1 o2, Below w.heap.size w ((w.alloc o1).alloc o2).drew := fun o1 o2 => (Below.alloc (Below.alloc (Below.refl _ _) (Nat.le_refl _) _) (by simp) _).drew
  go_region_held3 (fun w' => w'.cell? ⟨w.heap.size, 0, none⟩ = some (.slice A n0 c0) ∧ w'.cell? ⟨w.heap.size, 1, none⟩ = some (.slice B n1 c1) ∧ w'.cell? ⟨w.heap.size, 2, none⟩ = some (.slice C n2 c2) ∧ w'.cell? ⟨w.heap.size, 3, none⟩ = some (.slice D n3 c3)) (first | exact hS3 | exact hS2 | exact hS1 | exact hS0 | go_keep)
    (first
      | (go_at_call_of 26 A; refine (ref3_Twins A n0 c0 xs0 _ E0.out h0.small (by have := h0.short; have := E0.out; omega) (h0.reads.below (hW0 _ _))).mono ?_; rintro e w10 ⟨v0, rfl, hv0, hb0⟩
         obtain ⟨A0, d0, rfl⟩ := Kd.R_slice hv0
         have hw10 := (hW0 _ _).trans (hb0.mono (hW0 _ _).size)
         have hx10 : w10.heap[w.heap.size]? = some (.cells #[.slice A n0 c0, .slice B n1 c1, .slice C n2 c2, .slice D n3 c3] 32 (0, 0)) := blk_below (blk_drew (blk_alloc (blk_new w _) _)) hb0
         have hy10 : w10.heap[w.heap.size + 1]? = some (.cells #[.slice none 0 0, .slice none 0 0, .slice none 0 0, .slice none 0 0] 32 (0, 0)) := by have := blk_below (blk_drew (blk_new (w.alloc _) _)) hb0; simpa using this
         have hS0 := And.intro (blk_cell hx10 0) (And.intro (blk_cell hx10 1) (And.intro (blk_cell hx10 2) (blk_cell hx10 3))))
      | (go_at_call_of 26 B; refine (ref3_Twins B n1 c1 xs1 _ E1.out h1.small (by have := h1.short; have := E1.out; omega) (h1.reads.below hw10)).mono ?_; rintro e w11 ⟨v1, rfl, hv1, hb1⟩
         obtain ⟨A1, d1, rfl⟩ := Kd.R_slice hv1
         have hw11 := hw10.trans (hb1.mono hw10.size)
         have hx11 := blk_below hx10 hb1
         have hy11 := blk_below hy10 hb1
         have hS1 := And.intro (blk_cell hx11 0) (And.intro (blk_cell hx11 1) (And.intro (blk_cell hx11 2) (blk_cell hx11 3))))
      | (go_at_call_of 26 C; refine (ref3_Twins C n2 c2 xs2 _ E2.out h2.small (by have := h2.short; have := E2.out; omega) (h2.reads.below hw11)).mono ?_; rintro e w12 ⟨v2, rfl, hv2, hb2⟩
         obtain ⟨A2, d2, rfl⟩ := Kd.R_slice hv2
         have hw12 := hw11.trans (hb2.mono hw11.size)
         have hx12 := blk_below hx11 hb2
         have hy12 := blk_below hy11 hb2
         have hS2 := And.intro (blk_cell hx12 0) (And.intro (blk_cell hx12 1) (And.intro (blk_cell hx12 2) (blk_cell hx12 3))))
      | (go_at_call_of 26 D; refine (ref3_Twins D n3 c3 xs3 _ E3.out h3.small (by have := h3.short; have := E3.out; omega) (h3.reads.below hw12)).mono ?_; rintro e w13 ⟨v3, rfl, hv3, hb3⟩
         obtain ⟨A3, d3, rfl⟩ := Kd.R_slice hv3
         have hw13 := hw12.trans (hb3.mono hw12.size)
         have hx13 := blk_below hx12 hb3
         have hy13 := blk_below hy12 hb3
         have hS3 := And.intro (blk_cell hx13 0) (And.intro (blk_cell hx13 1) (And.intro (blk_cell hx13 2) (blk_cell hx13 3)))
         have hz0 := blk_cell hy13 0
         have hz1 := blk_cell hy13 1
         have hz2 := blk_cell hy13 2
         have hz3 := blk_cell hy13 3
         have hf := blk_frozen hy13))
  go_wp2_with fail
  refine bodyPost_ret (results_cell_row rfl _ _ (w.heap.size + 1) 32 #[.slice A0 _ d0, .slice A1 _ d1, .slice A2 _ d2, .slice A3 _ d3] (0, 0) _ rfl (set4_blk hy13 _ _ _ _) Try.underlying32 rfl (by kernel_rfl)) rfl ?_
  have hs0 : w.heap.size + 1 + 1 ≤ w10.heap.size := by simpa using hb0.size
  exact ⟨_, _, _, _, rfl, Oq.set4 (Kd.R_below (Kd.R_below (Kd.R_below hv0 hb1) hb2) hb3) (by simp; omega) (by simp) _ _ _ _, Oq.set4 (Kd.R_below (Kd.R_below hv1 hb2) hb3) (by have := hw10.size; omega) (by  omega) _ _ _ _, Oq.set4 (Kd.R_below hv2 hb3) (by have := hw11.size; omega) (by have := hb1.size; omega) _ _ _ _, Oq.set4 hv3 (by have := hw12.size; omega) (by have := hb1.size; have := hb2.size; omega) _ _ _ _, set4_below hw13 (by omega) _ _ _ _⟩

set_option maxRecDepth 10000 in
set_option maxHeartbeats 2000000 in
theorem ref11_SamePoint (A A' : Option Addr) (n0 c0 m0 d0 : Nat) (xs0 ys0 : List Rw) (B B' : Option Addr) (n1 c1 m1 d1 : Nat) (xs1 ys1 : List Rw) (C C' : Option Addr) (n2 c2 m2 d2 : Nat) (xs2 ys2 : List Rw) (w : World) (h0 : Rq w A xs0) (k0 : Rq w A' ys0) (e0 : n0 = xs0.length) (f0 : m0 = ys0.length) (h1 : Rq w B xs1) (k1 : Rq w B' ys1) (e1 : n1 = xs1.length) (f1 : m1 = ys1.length) (h2 : Rq w C xs2) (k2 : Rq w C' ys2) (e2 : n2 = xs2.length) (f2 : m2 = ys2.length) :
    Calls Try.prog 25 #[.agg #[.slice A n0 c0, .slice B n1 c1, .slice C n2 c2], .agg #[.slice A' m0 d0, .slice B' m1 d1, .slice C' m2 d2]] w fun e w' => e = .returned (.bool (decide (xs0 = ys0 ∧ xs1 = ys1 ∧ xs2 = ys2))) ∧ Below w.heap.size w w' := by
  have E0 := Lib.hid (And.intro e0 f0)
  clear e0 f0
  have E1 := Lib.hid (And.intro e1 f1)
  clear e1 f1
  have E2 := Lib.hid (And.intro e2 f2)
  clear e2 f2
  have hw0 : ∀ o1 o2, Below w.heap.size w ((w.alloc o1).alloc o2) := fun o1 o2 => Below.alloc (Below.alloc (Below.refl _ _) (Nat.le_refl _) _) (by simp) _
  go_enter Try.func25, Try.ntmps25
  go_wp2_with fail
  refine (ref3_Sames A A' n0 m0 c0 d0 xs0 ys0 _ E0.out.1 E0.out.2 (h0.below (hw0 _ _)) (k0.below (hw0 _ _))).mono ?_
  rintro e w1 ⟨rfl, hb1⟩
  have hw1 := (hw0 (.cells #[.slice A n0 c0, .slice B n1 c1, .slice C n2 c2] 43) (.cells #[.slice A' m0 d0, .slice B' m1 d1, .slice C' m2 d2] 43)).trans (hb1.mono (hw0 _ _).size)
  have hx1 : w1.heap[w.heap.size]? = some (.cells #[.slice A n0 c0, .slice B n1 c1, .slice C n2 c2] 43 (0, 0)) := blk_below (blk_alloc (blk_new w _) _) hb1
  have hy1 : w1.heap[w.heap.size + 1]? = some (.cells #[.slice A' m0 d0, .slice B' m1 d1, .slice C' m2 d2] 43 (0, 0)) := by have := blk_below (blk_new (w.alloc _) _) hb1; simpa using this
  by_cases g0 : xs0 = ys0
  · rw [show decide (xs0 = ys0) = true by simp [g0]]
    have G0 := Lib.hid g0
    clear g0
    have s0 := blk_cell hx1 1
    have t0 := blk_cell hy1 1
    go_wp2_with fail
    refine (ref3_Sames B B' n1 m1 c1 d1 xs1 ys1 _ E1.out.1 E1.out.2 (h1.below hw1) (k1.below hw1)).mono ?_
    rintro e w2 ⟨rfl, hb2⟩
    have hw2 := hw1.trans (hb2.mono hw1.size)
    have hx2 := blk_below hx1 hb2
    have hy2 := blk_below hy1 hb2
    by_cases g1 : xs1 = ys1
    · rw [show decide (xs1 = ys1) = true by simp [g1]]
      have G1 := Lib.hid g1
      clear g1
      have s1 := blk_cell hx2 2
      have t1 := blk_cell hy2 2
      go_wp2_with fail
      refine (ref3_Sames C C' n2 m2 c2 d2 xs2 ys2 _ E2.out.1 E2.out.2 (h2.below hw2) (k2.below hw2)).mono ?_
      rintro e w3 ⟨rfl, hb3⟩
      have hw3 := hw2.trans (hb3.mono hw2.size)
      have hx3 := blk_below hx2 hb3
      have hy3 := blk_below hy2 hb3
      go_wp2_with fail
      go_ret
      exact ⟨ret_bool (by have g0 := G0.out; have g1 := G1.out; simp only [g0, g1];  simp), hw3⟩
    · rw [show decide (xs1 = ys1) = false by simp [g1]]
      have G1 := Lib.hid g1
      clear g1
      go_wp2_with fail
      go_ret
      exact ⟨ret_bool (by have g := G1.out; simp [g]), hw2⟩
  · rw [show decide (xs0 = ys0) = false by simp [g0]]
    have G0 := Lib.hid g0
    clear g0
    go_wp2_with fail
    go_ret
    exact ⟨ret_bool (by have g := G0.out; simp [g]), hw1⟩

set_option maxRecDepth 10000 in
set_option maxHeartbeats 2000000 in
theorem ref12_Same (A A' : Option Addr) (n0 c0 m0 d0 : Nat) (xs0 ys0 : List Rw) (B B' : Option Addr) (n1 c1 m1 d1 : Nat) (xs1 ys1 : List Rw) (C C' : Option Addr) (n2 c2 m2 d2 : Nat) (xs2 ys2 : List Rw) (D D' : Option Addr) (n3 c3 m3 d3 : Nat) (xs3 ys3 : List Rw) (w : World) (h0 : Rq w A xs0) (k0 : Rq w A' ys0) (e0 : n0 = xs0.length) (f0 : m0 = ys0.length) (h1 : Rq w B xs1) (k1 : Rq w B' ys1) (e1 : n1 = xs1.length) (f1 : m1 = ys1.length) (h2 : Rq w C xs2) (k2 : Rq w C' ys2) (e2 : n2 = xs2.length) (f2 : m2 = ys2.length) (h3 : Rq w D xs3) (k3 : Rq w D' ys3) (e3 : n3 = xs3.length) (f3 : m3 = ys3.length) :
    Calls Try.prog 20 #[.agg #[.slice A n0 c0, .slice B n1 c1, .slice C n2 c2, .slice D n3 c3], .agg #[.slice A' m0 d0, .slice B' m1 d1, .slice C' m2 d2, .slice D' m3 d3]] w fun e w' => e = .returned (.bool (decide (xs0 = ys0 ∧ xs1 = ys1 ∧ xs2 = ys2 ∧ xs3 = ys3))) ∧ Below w.heap.size w w' := by
  have E0 := Lib.hid (And.intro e0 f0)
  clear e0 f0
  have E1 := Lib.hid (And.intro e1 f1)
  clear e1 f1
  have E2 := Lib.hid (And.intro e2 f2)
  clear e2 f2
  have E3 := Lib.hid (And.intro e3 f3)
  clear e3 f3
  have hw0 : ∀ o1 o2, Below w.heap.size w ((w.alloc o1).alloc o2) := fun o1 o2 => Below.alloc (Below.alloc (Below.refl _ _) (Nat.le_refl _) _) (by simp) _
  go_enter Try.func20, Try.ntmps20
  go_wp2_with fail
  refine (ref3_Sames A A' n0 m0 c0 d0 xs0 ys0 _ E0.out.1 E0.out.2 (h0.below (hw0 _ _)) (k0.below (hw0 _ _))).mono ?_
  rintro e w1 ⟨rfl, hb1⟩
  have hw1 := (hw0 (.cells #[.slice A n0 c0, .slice B n1 c1, .slice C n2 c2, .slice D n3 c3] 32) (.cells #[.slice A' m0 d0, .slice B' m1 d1, .slice C' m2 d2, .slice D' m3 d3] 32)).trans (hb1.mono (hw0 _ _).size)
  have hx1 : w1.heap[w.heap.size]? = some (.cells #[.slice A n0 c0, .slice B n1 c1, .slice C n2 c2, .slice D n3 c3] 32 (0, 0)) := blk_below (blk_alloc (blk_new w _) _) hb1
  have hy1 : w1.heap[w.heap.size + 1]? = some (.cells #[.slice A' m0 d0, .slice B' m1 d1, .slice C' m2 d2, .slice D' m3 d3] 32 (0, 0)) := by have := blk_below (blk_new (w.alloc _) _) hb1; simpa using this
  by_cases g0 : xs0 = ys0
  · rw [show decide (xs0 = ys0) = true by simp [g0]]
    have G0 := Lib.hid g0
    clear g0
    have s0 := blk_cell hx1 1
    have t0 := blk_cell hy1 1
    go_wp2_with fail
    refine (ref3_Sames B B' n1 m1 c1 d1 xs1 ys1 _ E1.out.1 E1.out.2 (h1.below hw1) (k1.below hw1)).mono ?_
    rintro e w2 ⟨rfl, hb2⟩
    have hw2 := hw1.trans (hb2.mono hw1.size)
    have hx2 := blk_below hx1 hb2
    have hy2 := blk_below hy1 hb2
    by_cases g1 : xs1 = ys1
    · rw [show decide (xs1 = ys1) = true by simp [g1]]
      have G1 := Lib.hid g1
      clear g1
      have s1 := blk_cell hx2 2
      have t1 := blk_cell hy2 2
      go_wp2_with fail
      refine (ref3_Sames C C' n2 m2 c2 d2 xs2 ys2 _ E2.out.1 E2.out.2 (h2.below hw2) (k2.below hw2)).mono ?_
      rintro e w3 ⟨rfl, hb3⟩
      have hw3 := hw2.trans (hb3.mono hw2.size)
      have hx3 := blk_below hx2 hb3
      have hy3 := blk_below hy2 hb3
      by_cases g2 : xs2 = ys2
      · rw [show decide (xs2 = ys2) = true by simp [g2]]
        have G2 := Lib.hid g2
        clear g2
        have s2 := blk_cell hx3 3
        have t2 := blk_cell hy3 3
        go_wp2_with fail
        refine (ref3_Sames D D' n3 m3 c3 d3 xs3 ys3 _ E3.out.1 E3.out.2 (h3.below hw3) (k3.below hw3)).mono ?_
        rintro e w4 ⟨rfl, hb4⟩
        have hw4 := hw3.trans (hb4.mono hw3.size)
        have hx4 := blk_below hx3 hb4
        have hy4 := blk_below hy3 hb4
        go_wp2_with fail
        go_ret
        exact ⟨ret_bool (by have g0 := G0.out; have g1 := G1.out; have g2 := G2.out; simp only [g0, g1, g2];  simp), hw4⟩
      · rw [show decide (xs2 = ys2) = false by simp [g2]]
        have G2 := Lib.hid g2
        clear g2
        go_wp2_with fail
        go_ret
        exact ⟨ret_bool (by have g := G2.out; simp [g]), hw3⟩
    · rw [show decide (xs1 = ys1) = false by simp [g1]]
      have G1 := Lib.hid g1
      clear g1
      go_wp2_with fail
      go_ret
      exact ⟨ret_bool (by have g := G1.out; simp [g]), hw2⟩
  · rw [show decide (xs0 = ys0) = false by simp [g0]]
    have G0 := Lib.hid g0
    clear g0
    go_wp2_with fail
    go_ret
    exact ⟨ret_bool (by have g := G0.out; simp [g]), hw1⟩

end Go.Proofs.Ytajahomfmcbmlaa.T
