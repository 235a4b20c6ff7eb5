/-
tableaulaw17.StackCerts answers true.
-/
import Derived.Test.YtajahomfmcbmlaaStack8
import Derived.Test.YtajahomfmcbmlaaLists
import Derived.Test.YtajahomfmcbmlaaAwake17
import Derived.Test.YtajahomfmcbmlaaOpen
namespace Go.Proofs.Ytajahomfmcbmlaa.T
open Go.RowKit Go.Proofs.YtajahomfmcbmlaaW.PrintWords Go.Proofs.YtajahomfmcbmlaaW.PrintLast Go.Proofs.YtajahomfmcbmlaaW.PrintMore
set_option linter.unusedVariables false

theorem blk_new' (W : World) (o : Obj) (i : Nat) (h : i = W.heap.size) : (W.alloc o).heap[i]? = some o := by subst h; exact blk_new W o

theorem have_ {p q : Prop} (h : p) (k : p → q) : q := k h

theorem lights_small {xs : List Rw} (hi : ∀ x ∈ xs, InB B64 x.2.1 ∧ InB B64 x.2.2) (h : lightsR 10 xs = true) : Small xs ∧ xs.length ≤ 300 := by
  unfold lightsR at h
  rw [Bool.and_eq_true] at h
  refine ⟨fun x hx => ?_, by simpa using h.1⟩
  have h2 := List.all_eq_true.1 h.2 x hx
  unfold lightR at h2
  have h3 := of_decide_eq_true h2
  exact ⟨by omega, by omega, hi x hx⟩
theorem Arg.lst {w W : World} {A : Option Addr} {xs : List Rw} (h : Arg w A xs) (hl : lightsR 10 xs = true) (hb : Below w.heap.size w W) : Lst W A xs :=
  ⟨(lights_small h.inb hl).1, Nat.le_trans (lights_small h.inb hl).2 (by decide), h.reads.below hb⟩

set_option maxRecDepth 10000 in
set_option maxHeartbeats 8000000 in
theorem law_StackCerts (x y : Int) (A B C D : Option Addr) (n0 c0 n1 c1 n2 c2 n3 c3 : Nat) (xs0 xs1 xs2 xs3 : List Rw) (w : World) (h0 : Arg w A xs0) (e0 : n0 = xs0.length) (h1 : Arg w B xs1) (e1 : n1 = xs1.length) (h2 : Arg w C xs2) (e2 : n2 = xs2.length) (h3 : Arg w D xs3) (e3 : n3 = xs3.length) :
    Calls Try.prog 4 #[.int .i64 x, .int .i64 y, .agg #[.slice A n0 c0, .slice B n1 c1, .slice C n2 c2, .slice D n3 c3]] w fun e w' => e = .returned (.bool true) ∧ Below w.heap.size w w' := by
  have E0 := Lib.hid e0
  have E1 := Lib.hid e1
  have E2 := Lib.hid e2
  have E3 := Lib.hid e3
  clear e0 e1 e2 e3
  have hw : ∀ o, Below w.heap.size w (w.alloc o) := fun o => Below.alloc (Below.refl _ _) (Nat.le_refl _) _
  by_cases h : (0 ≤ x ∧ x ≤ 64) ∧ (0 ≤ y ∧ y ≤ 64)
  · have HXY := Lib.hid h
    clear h
    go_enter Try.func4, Try.ntmps4
    go_wp2_with fail
    refine (awake17 _).mono ?_
    rintro e w1 ⟨rfl, hb1⟩
    have hx1 : w1.heap[w.heap.size]? = some (.cells #[.slice A n0 c0, .slice B n1 c1, .slice C n2 c2, .slice D n3 c3] 32 (0, 0)) := blk_below (blk_new w _) hb1
    have hb1 := (hw _).trans (hb1.mono (hw _).size)
    go_wp2_with fail
    refine (stack_New x y w1 HXY.out.1 HXY.out.2).mono ?_
    rintro e w2 ⟨rfl, hs2, hg2, hb2⟩
    have hx2 := blk_below hx1 hb2
    have hb2 := hb1.trans (hb2.mono hb1.size)
    have r := blk_cell hx2 0
    go_wp2_with fail
    refine (ref3_Lights A n0 c0 10 xs0 _ E0.out (h0.reads.below hb2)).mono ?_
    rintro e w3 ⟨rfl, hb3⟩
    have hx3 := blk_below hx2 hb3
    have hs3 := hs2.below hb3
    have hb3 := hb2.trans (hb3.mono hb2.size)
    obtain ⟨b0, hq0⟩ : ∃ b, lightsR 10 xs0 = b := ⟨_, rfl⟩
    rw [hq0]
    have Q0 := Lib.hid hq0
    clear hq0
    cases b0
    · go_wp2_with fail
      go_ret
      exact ⟨rfl, hb3⟩
    have r0 := blk_cell hx3 1
    go_wp2_with fail
    refine (ref3_Lights B n1 c1 10 xs1 _ E1.out (h1.reads.below hb3)).mono ?_
    rintro e w4 ⟨rfl, hb4⟩
    have hx4 := blk_below hx3 hb4
    have hs4 := hs3.below hb4
    have hb4 := hb3.trans (hb4.mono hb3.size)
    obtain ⟨b1, hq1⟩ : ∃ b, lightsR 10 xs1 = b := ⟨_, rfl⟩
    rw [hq1]
    have Q1 := Lib.hid hq1
    clear hq1
    cases b1
    · go_wp2_with fail
      go_ret
      exact ⟨rfl, hb4⟩
    have r1 := blk_cell hx4 2
    go_wp2_with fail
    refine (ref3_Lights C n2 c2 10 xs2 _ E2.out (h2.reads.below hb4)).mono ?_
    rintro e w5 ⟨rfl, hb5⟩
    have hx5 := blk_below hx4 hb5
    have hs5 := hs4.below hb5
    have hb5 := hb4.trans (hb5.mono hb4.size)
    obtain ⟨b2, hq2⟩ : ∃ b, lightsR 10 xs2 = b := ⟨_, rfl⟩
    rw [hq2]
    have Q2 := Lib.hid hq2
    clear hq2
    cases b2
    · go_wp2_with fail
      go_ret
      exact ⟨rfl, hb5⟩
    have r2 := blk_cell hx5 3
    go_wp2_with fail
    refine (ref3_Lights D n3 c3 10 xs3 _ E3.out (h3.reads.below hb5)).mono ?_
    rintro e w6 ⟨rfl, hb6⟩
    have hx6 := blk_below hx5 hb6
    have hs6 := hs5.below hb6
    have hb6 := hb5.trans (hb6.mono hb5.size)
    obtain ⟨b3, hq3⟩ : ∃ b, lightsR 10 xs3 = b := ⟨_, rfl⟩
    rw [hq3]
    have Q3 := Lib.hid hq3
    clear hq3
    cases b3
    · go_wp2_with fail
      go_ret
      exact ⟨rfl, hb6⟩
    have l0 := h0.lst Q0.out hb6
    have l1 := h1.lst Q1.out hb6
    have l2 := h2.lst Q2.out hb6
    have l3 := h3.lst Q3.out hb6
    clear r r0 r1 r2 hx2 hx3 hx4 hx5 hs2 hs3 hs4 hs5 hb2 hb3 hb4 hb5 hx1 hb1 hg2
    have r0 := blk_cell hx6 0
    have r1 := blk_cell hx6 1
    have r2 := blk_cell hx6 2
    have r3 := blk_cell hx6 3
    go_wp2_with fail
    refine (ref12_Twin A n0 c0 xs0 B n1 c1 xs1 C n2 c2 xs2 D n3 c3 xs3 _ l0 E0.out l1 E1.out l2 E2.out l3 E3.out).mono ?_
    rintro e w7 ⟨v0, v1, v2, v3, rfl, hv0, hv1, hv2, hv3, hb7⟩
    obtain ⟨A0, d0, rfl⟩ := Kd.R_slice hv0
    obtain ⟨A1, d1, rfl⟩ := Kd.R_slice hv1
    obtain ⟨A2, d2, rfl⟩ := Kd.R_slice hv2
    obtain ⟨A3, d3, rfl⟩ := Kd.R_slice hv3
    have hx7 := blk_below hx6 hb7
    have hs7 := hs6.below hb7
    go_wp2_with fail
    obtain ⟨E, hE⟩ : ∃ E, fitsE [xs2, xs3] [xs0, xs1] x y = E := ⟨_, rfl⟩
    have hC := stack_Cert _ x y A0 A1 A2 A3 _ d0 _ d1 _ d2 _ d3 xs0 xs1 xs2 xs3 w7 hs7 ⟨l0.small, l0.short, (Kd.R_reads' hv0).2.2⟩ rfl ⟨l1.small, l1.short, (Kd.R_reads' hv1).2.2⟩ rfl ⟨l2.small, l2.short, (Kd.R_reads' hv2).2.2⟩ rfl ⟨l3.small, l3.short, (Kd.R_reads' hv3).2.2⟩ rfl
    rw [hE] at hC
    have HE := Lib.hid hE
    have HC := Lib.hid hC
    clear hC hE
    refine HC.out.mono ?_
    clear HC
    rintro e w8 ⟨hb8, hz, hn⟩
    have hx8 := blk_below hx7 hb8
    have hb8 := hb6.trans ((hb7.trans (hb8.mono hb7.size)).mono hb6.size)
    by_cases hE0 : E = 0
    · obtain ⟨v4, v5, v6, v7, rfl, hv4, hv5, hv6, hv7⟩ := hz hE0
      obtain ⟨A4, d4, rfl⟩ := Kd.R_slice hv4
      obtain ⟨A5, d5, rfl⟩ := Kd.R_slice hv5
      obtain ⟨A6, d6, rfl⟩ := Kd.R_slice hv6
      obtain ⟨A7, d7, rfl⟩ := Kd.R_slice hv7
      have HE0 := Lib.hid hE0
      clear hz hn hE0
      go_wp2_with fail
      have hb9 := hb8.alloc hb8.size (.cells #[.slice A4 xs0.length d4, .slice A5 xs1.length d5, .slice A6 xs2.length d6, .slice A7 xs3.length d7] 32)
      have hx9 : (w8.alloc (.cells #[.slice A4 xs0.length d4, .slice A5 xs1.length d5, .slice A6 xs2.length d6, .slice A7 xs3.length d7] 32)).heap[w.heap.size]? = _ := blk_alloc hx8 _
      have hy9 : (w8.alloc (.cells #[.slice A4 xs0.length d4, .slice A5 xs1.length d5, .slice A6 xs2.length d6, .slice A7 xs3.length d7] 32)).heap[w8.heap.size]? = _ := blk_new w8 _
      have hv4 := Kd.R_alloc hv4 (.cells #[.slice A4 xs0.length d4, .slice A5 xs1.length d5, .slice A6 xs2.length d6, .slice A7 xs3.length d7] 32)
      have hv5 := Kd.R_alloc hv5 (.cells #[.slice A4 xs0.length d4, .slice A5 xs1.length d5, .slice A6 xs2.length d6, .slice A7 xs3.length d7] 32)
      have hv6 := Kd.R_alloc hv6 (.cells #[.slice A4 xs0.length d4, .slice A5 xs1.length d5, .slice A6 xs2.length d6, .slice A7 xs3.length d7] 32)
      have hv7 := Kd.R_alloc hv7 (.cells #[.slice A4 xs0.length d4, .slice A5 xs1.length d5, .slice A6 xs2.length d6, .slice A7 xs3.length d7] 32)
      generalize w8.alloc (.cells #[.slice A4 xs0.length d4, .slice A5 xs1.length d5, .slice A6 xs2.length d6, .slice A7 xs3.length d7] 32) = w9 at hb9 hx9 hy9 hv4 hv5 hv6 hv7 ⊢
      have hB9 : Below w.heap.size w w9 := hb9
      have hA9 : Below w9.heap.size w9 w9 := Below.refl _ _
      have k64a : True := trivial
      have k64b : True := trivial
      have mkS : ∀ W : World, W.heap[w.heap.size]? = some (.cells #[.slice A n0 c0, .slice B n1 c1, .slice C n2 c2, .slice D n3 c3] 32 (0, 0)) → W.cell? ⟨w.heap.size, 2, none⟩ = some (.slice C n2 c2) ∧ W.cell? ⟨w.heap.size, 3, none⟩ = some (.slice D n3 c3) ∧ W.cell? ⟨w.heap.size, 0, none⟩ = some (.slice A n0 c0) ∧ W.cell? ⟨w.heap.size, 1, none⟩ = some (.slice B n1 c1) := fun W h => And.intro (blk_cell h 2) (And.intro (blk_cell h 3) (And.intro (blk_cell h 0) (blk_cell h 1)))
      go_region_held3 (fun w' => w'.cell? ⟨w.heap.size, 2, none⟩ = some (.slice C n2 c2) ∧ w'.cell? ⟨w.heap.size, 3, none⟩ = some (.slice D n3 c3) ∧ w'.cell? ⟨w.heap.size, 0, none⟩ = some (.slice A n0 c0) ∧ w'.cell? ⟨w.heap.size, 1, none⟩ = some (.slice B n1 c1)) ((refine mkS _ ?_; repeat (with_reducible first | exact hx9 | (refine blk_new' _ _ _ ?_; simp; done) | refine blk_drew ?_ | refine blk_alloc ?_ _)))
        (first
          | (go_at_call_of 19 x; refine (law17_lists x _ 2 2 [xs2, xs3] _ (Fit.two (h2.lst Q2.out (by repeat (with_reducible first | exact hB9 | apply below_alloc | apply below_drew))) (h3.lst Q3.out (by repeat (with_reducible first | exact hB9 | apply below_alloc | apply below_drew))) E2.out E3.out (by repeat (with_reducible first | (refine blk_new' _ _ _ ?_; simp; done) | refine blk_drew ?_ | refine blk_alloc ?_ _)))).mono ?_; rintro e wn ⟨rfl, hbn⟩
             (first
               | have k64b := blk_below (blk_drew (blk_new' (w9.alloc (.cells #[.slice C n2 c2, .slice D n3 c3] 30 (0, 0))) (.cells #[.slice A n0 c0, .slice B n1 c1] 30 (0, 0)) (w9.heap.size + 1) (World.size_alloc w9 (.cells #[.slice C n2 c2, .slice D n3 c3] 30 (0, 0))).symm)) hbn
               | have k64a := blk_below (blk_drew (blk_alloc (blk_new' w9 (.cells #[.slice A n0 c0, .slice B n1 c1] 30 (0, 0)) w9.heap.size rfl) (.cells #[.slice C n2 c2, .slice D n3 c3] 30 (0, 0)))) hbn
               | skip)
             have hA9 : Below w9.heap.size w9 wn := Below.trans (by repeat (with_reducible first | exact hA9 | apply below_alloc | apply below_drew)) (hbn.mono (by simp <;> omega))
             have hB9 := hb9.trans (hA9.mono hb9.size)
             have hx9 : wn.heap[w.heap.size]? = some (.cells #[.slice A n0 c0, .slice B n1 c1, .slice C n2 c2, .slice D n3 c3] 32 (0, 0)) := blk_below (by repeat (with_reducible first | exact hx9 | (refine blk_new' _ _ _ ?_; simp; done) | refine blk_drew ?_ | refine blk_alloc ?_ _)) hbn
             have hy9 : wn.heap[w8.heap.size]? = some (.cells #[.slice A4 xs0.length d4, .slice A5 xs1.length d5, .slice A6 xs2.length d6, .slice A7 xs3.length d7] 32 (0, 0)) := blk_below (by repeat (with_reducible first | exact hy9 | (refine blk_new' _ _ _ ?_; simp; done) | refine blk_drew ?_ | refine blk_alloc ?_ _)) hbn
             )
          | (go_at_call_of 19 y; refine (law17_lists y _ 2 2 [xs0, xs1] _ (Fit.two (h0.lst Q0.out (by repeat (with_reducible first | exact hB9 | apply below_alloc | apply below_drew))) (h1.lst Q1.out (by repeat (with_reducible first | exact hB9 | apply below_alloc | apply below_drew))) E0.out E1.out (by repeat (with_reducible first | exact k64a | exact k64b | (refine blk_new' _ _ _ ?_; simp; done) | refine blk_drew ?_ | refine blk_alloc ?_ _)))).mono ?_; rintro e wn ⟨rfl, hbn⟩
             have hA9 : Below w9.heap.size w9 wn := Below.trans (by repeat (with_reducible first | exact hA9 | apply below_alloc | apply below_drew)) (hbn.mono (by have := hA9.size; simp <;> omega))
             have hB9 := hb9.trans (hA9.mono hb9.size)
             have hx9 : wn.heap[w.heap.size]? = some (.cells #[.slice A n0 c0, .slice B n1 c1, .slice C n2 c2, .slice D n3 c3] 32 (0, 0)) := blk_below (by repeat (with_reducible first | exact hx9 | (refine blk_new' _ _ _ ?_; simp; done) | refine blk_drew ?_ | refine blk_alloc ?_ _)) hbn
             have hy9 : wn.heap[w8.heap.size]? = some (.cells #[.slice A4 xs0.length d4, .slice A5 xs1.length d5, .slice A6 xs2.length d6, .slice A7 xs3.length d7] 32 (0, 0)) := blk_below (by repeat (with_reducible first | exact hy9 | (refine blk_new' _ _ _ ?_; simp; done) | refine blk_drew ?_ | refine blk_alloc ?_ _)) hbn
             )
          | (go_at_call 18; refine (ref7_Least _ 2 2 [listsE x [xs2, xs3], listsE y [xs0, xs1]] _ rfl (Ri.two (by repeat (with_reducible first | (refine blk_new' _ _ _ ?_; simp; done) | refine blk_drew ?_ | refine blk_alloc ?_ _)))).mono ?_; rintro e wn ⟨rfl, rfl⟩
             rw [fitsE_lists, HE.out, HE0.out]))
      all_goals
        have hA10 : Below w9.heap.size w9 wn := hA9
        have hv4 := Kd.R_alloc (Kd.R_below hv4 hA10) (.cells #[.int .i64 (listsE x [xs2, xs3]), .int .i64 (listsE y [xs0, xs1])] 3)
        have hv5 := Kd.R_alloc (Kd.R_below hv5 hA10) (.cells #[.int .i64 (listsE x [xs2, xs3]), .int .i64 (listsE y [xs0, xs1])] 3)
        have hv6 := Kd.R_alloc (Kd.R_below hv6 hA10) (.cells #[.int .i64 (listsE x [xs2, xs3]), .int .i64 (listsE y [xs0, xs1])] 3)
        have hv7 := Kd.R_alloc (Kd.R_below hv7 hA10) (.cells #[.int .i64 (listsE x [xs2, xs3]), .int .i64 (listsE y [xs0, xs1])] 3)
        have hx10 := blk_alloc hx9 (.cells #[.int .i64 (listsE x [xs2, xs3]), .int .i64 (listsE y [xs0, xs1])] 3)
        have hy10 := blk_alloc hy9 (.cells #[.int .i64 (listsE x [xs2, xs3]), .int .i64 (listsE y [xs0, xs1])] 3)
        have hB10 : Below w.heap.size w (wn.alloc (.cells #[.int .i64 (listsE x [xs2, xs3]), .int .i64 (listsE y [xs0, xs1])] 3)) := below_alloc hB9 _
        clear hx9 hy9 hB9 hA9 hA10 mkS hx8 hb8 hbn
        generalize wn.alloc (.cells #[.int .i64 (listsE x [xs2, xs3]), .int .i64 (listsE y [xs0, xs1])] 3) = w10 at hv4 hv5 hv6 hv7 hx10 hy10 hB10 ⊢
        have u0 := blk_cell hx10 0
        have u1 := blk_cell hx10 1
        have u2 := blk_cell hx10 2
        have u3 := blk_cell hx10 3
        have s0 := blk_cell hy10 0
        have s1 := blk_cell hy10 1
        have s2 := blk_cell hy10 2
        have s3 := blk_cell hy10 3
        go_wp2_with fail
        refine (ref12_Same A4 A _ d4 n0 c0 xs0 xs0 A5 B _ d5 n1 c1 xs1 xs1 A6 C _ d6 n2 c2 xs2 xs2 A7 D _ d7 n3 c3 xs3 xs3 _ (Kd.R_reads' hv4).2.2 (h0.reads.below hB10) rfl E0.out (Kd.R_reads' hv5).2.2 (h1.reads.below hB10) rfl E1.out (Kd.R_reads' hv6).2.2 (h2.reads.below hB10) rfl E2.out (Kd.R_reads' hv7).2.2 (h3.reads.below hB10) rfl E3.out).mono ?_
        rintro e w11 ⟨rfl, hb11⟩
        rw [show decide (xs0 = xs0 ∧ xs1 = xs1 ∧ xs2 = xs2 ∧ xs3 = xs3) = true by simp]
        go_wp2_with fail
        go_ret
        exact ⟨rfl, hB10.trans (hb11.mono hB10.size)⟩
    · obtain rfl := hn hE0
      have HE0 := Lib.hid hE0
      clear hz hn hE0
      go_wp2_with fail
      have hb9 := hb8.alloc hb8.size (.cells #[.slice none 0 0, .slice none 0 0, .slice none 0 0, .slice none 0 0] 32)
      have hx9 : (w8.alloc (.cells #[.slice none 0 0, .slice none 0 0, .slice none 0 0, .slice none 0 0] 32)).heap[w.heap.size]? = _ := blk_alloc hx8 _
      have hy9 : (w8.alloc (.cells #[.slice none 0 0, .slice none 0 0, .slice none 0 0, .slice none 0 0] 32)).heap[w8.heap.size]? = _ := blk_new w8 _
      
      generalize w8.alloc (.cells #[.slice none 0 0, .slice none 0 0, .slice none 0 0, .slice none 0 0] 32) = w9 at hb9 hx9 hy9 ⊢
      have hB9 : Below w.heap.size w w9 := hb9
      have hA9 : Below w9.heap.size w9 w9 := Below.refl _ _
      have k64a : True := trivial
      have k64b : True := trivial
      have mkS : ∀ W : World, W.heap[w.heap.size]? = some (.cells #[.slice A n0 c0, .slice B n1 c1, .slice C n2 c2, .slice D n3 c3] 32 (0, 0)) → W.cell? ⟨w.heap.size, 2, none⟩ = some (.slice C n2 c2) ∧ W.cell? ⟨w.heap.size, 3, none⟩ = some (.slice D n3 c3) ∧ W.cell? ⟨w.heap.size, 0, none⟩ = some (.slice A n0 c0) ∧ W.cell? ⟨w.heap.size, 1, none⟩ = some (.slice B n1 c1) := fun W h => And.intro (blk_cell h 2) (And.intro (blk_cell h 3) (And.intro (blk_cell h 0) (blk_cell h 1)))
      go_region_held3 (fun w' => w'.cell? ⟨w.heap.size, 2, none⟩ = some (.slice C n2 c2) ∧ w'.cell? ⟨w.heap.size, 3, none⟩ = some (.slice D n3 c3) ∧ w'.cell? ⟨w.heap.size, 0, none⟩ = some (.slice A n0 c0) ∧ w'.cell? ⟨w.heap.size, 1, none⟩ = some (.slice B n1 c1)) ((refine mkS _ ?_; repeat (with_reducible first | exact hx9 | (refine blk_new' _ _ _ ?_; simp; done) | refine blk_drew ?_ | refine blk_alloc ?_ _)))
        (first
          | (go_at_call_of 19 x; refine (law17_lists x _ 2 2 [xs2, xs3] _ (Fit.two (h2.lst Q2.out (by repeat (with_reducible first | exact hB9 | apply below_alloc | apply below_drew))) (h3.lst Q3.out (by repeat (with_reducible first | exact hB9 | apply below_alloc | apply below_drew))) E2.out E3.out (by repeat (with_reducible first | (refine blk_new' _ _ _ ?_; simp; done) | refine blk_drew ?_ | refine blk_alloc ?_ _)))).mono ?_; rintro e wn ⟨rfl, hbn⟩
             (first
               | have k64b := blk_below (blk_drew (blk_new' (w9.alloc (.cells #[.slice C n2 c2, .slice D n3 c3] 30 (0, 0))) (.cells #[.slice A n0 c0, .slice B n1 c1] 30 (0, 0)) (w9.heap.size + 1) (World.size_alloc w9 (.cells #[.slice C n2 c2, .slice D n3 c3] 30 (0, 0))).symm)) hbn
               | have k64a := blk_below (blk_drew (blk_alloc (blk_new' w9 (.cells #[.slice A n0 c0, .slice B n1 c1] 30 (0, 0)) w9.heap.size rfl) (.cells #[.slice C n2 c2, .slice D n3 c3] 30 (0, 0)))) hbn
               | skip)
             have hA9 : Below w9.heap.size w9 wn := Below.trans (by repeat (with_reducible first | exact hA9 | apply below_alloc | apply below_drew)) (hbn.mono (by simp <;> omega))
             have hB9 := hb9.trans (hA9.mono hb9.size)
             have hx9 : wn.heap[w.heap.size]? = some (.cells #[.slice A n0 c0, .slice B n1 c1, .slice C n2 c2, .slice D n3 c3] 32 (0, 0)) := blk_below (by repeat (with_reducible first | exact hx9 | (refine blk_new' _ _ _ ?_; simp; done) | refine blk_drew ?_ | refine blk_alloc ?_ _)) hbn
             have hy9 : wn.heap[w8.heap.size]? = some (.cells #[.slice none 0 0, .slice none 0 0, .slice none 0 0, .slice none 0 0] 32 (0, 0)) := blk_below (by repeat (with_reducible first | exact hy9 | (refine blk_new' _ _ _ ?_; simp; done) | refine blk_drew ?_ | refine blk_alloc ?_ _)) hbn
             )
          | (go_at_call_of 19 y; refine (law17_lists y _ 2 2 [xs0, xs1] _ (Fit.two (h0.lst Q0.out (by repeat (with_reducible first | exact hB9 | apply below_alloc | apply below_drew))) (h1.lst Q1.out (by repeat (with_reducible first | exact hB9 | apply below_alloc | apply below_drew))) E0.out E1.out (by repeat (with_reducible first | exact k64a | exact k64b | (refine blk_new' _ _ _ ?_; simp; done) | refine blk_drew ?_ | refine blk_alloc ?_ _)))).mono ?_; rintro e wn ⟨rfl, hbn⟩
             have hA9 : Below w9.heap.size w9 wn := Below.trans (by repeat (with_reducible first | exact hA9 | apply below_alloc | apply below_drew)) (hbn.mono (by have := hA9.size; simp <;> omega))
             have hB9 := hb9.trans (hA9.mono hb9.size)
             have hx9 : wn.heap[w.heap.size]? = some (.cells #[.slice A n0 c0, .slice B n1 c1, .slice C n2 c2, .slice D n3 c3] 32 (0, 0)) := blk_below (by repeat (with_reducible first | exact hx9 | (refine blk_new' _ _ _ ?_; simp; done) | refine blk_drew ?_ | refine blk_alloc ?_ _)) hbn
             have hy9 : wn.heap[w8.heap.size]? = some (.cells #[.slice none 0 0, .slice none 0 0, .slice none 0 0, .slice none 0 0] 32 (0, 0)) := blk_below (by repeat (with_reducible first | exact hy9 | (refine blk_new' _ _ _ ?_; simp; done) | refine blk_drew ?_ | refine blk_alloc ?_ _)) hbn
             )
          | (go_at_call 18; refine (ref7_Least _ 2 2 [listsE x [xs2, xs3], listsE y [xs0, xs1]] _ rfl (Ri.two (by repeat (with_reducible first | (refine blk_new' _ _ _ ?_; simp; done) | refine blk_drew ?_ | refine blk_alloc ?_ _)))).mono ?_; rintro e wn ⟨rfl, rfl⟩
             rw [fitsE_lists, HE.out]))
      all_goals
        have hx10 := blk_alloc hx9 (.cells #[.int .i64 (listsE x [xs2, xs3]), .int .i64 (listsE y [xs0, xs1])] 3)
        have hy10 := blk_alloc hy9 (.cells #[.int .i64 (listsE x [xs2, xs3]), .int .i64 (listsE y [xs0, xs1])] 3)
        have hB10 : Below w.heap.size w (wn.alloc (.cells #[.int .i64 (listsE x [xs2, xs3]), .int .i64 (listsE y [xs0, xs1])] 3)) := below_alloc hB9 _
        clear hx9 hy9 hB9 hA9 mkS hx8 hb8 hbn
        generalize wn.alloc (.cells #[.int .i64 (listsE x [xs2, xs3]), .int .i64 (listsE y [xs0, xs1])] 3) = w10 at hx10 hy10 hB10 ⊢
        have s0 := blk_cell hy10 0
        have s1 := blk_cell hy10 1
        have s2 := blk_cell hy10 2
        have s3 := blk_cell hy10 3
        have hE1 : (E == 0) = false := by simpa using HE0.out
        have hE2 : (E != 0) = true := by simpa using HE0.out
        go_wp2_with fail
        refine (ref12_Same none none 0 0 0 0 [] [] none none 0 0 0 0 [] [] none none 0 0 0 0 [] [] none none 0 0 0 0 [] [] _ (Kd.C_nil _ _) (Kd.C_nil _ _) rfl rfl (Kd.C_nil _ _) (Kd.C_nil _ _) rfl rfl (Kd.C_nil _ _) (Kd.C_nil _ _) rfl rfl (Kd.C_nil _ _) (Kd.C_nil _ _) rfl rfl).mono ?_
        rintro e w11 ⟨rfl, hb11⟩
        rw [show decide (([] : List Rw) = [] ∧ ([] : List Rw) = [] ∧ ([] : List Rw) = [] ∧ ([] : List Rw) = []) = true by simp]
        go_wp2_with fail
        go_ret
        exact ⟨rfl, hB10.trans (hb11.mono hB10.size)⟩
  · have H := Lib.hid h
    have hd := stack_NewNot x y
    clear h
    go_enter Try.func4, Try.ntmps4
    go_wp2_with fail
    refine (awake17 _).mono ?_
    rintro e w1 ⟨rfl, hb1⟩
    have hb1 := (hw _).trans (hb1.mono (hw _).size)
    go_wp2_with fail
    refine (hd w1 H.out).mono ?_
    rintro e w2 ⟨rfl, rfl⟩
    clear hd
    go_wp2_with fail
    go_ret
    exact ⟨rfl, hb1⟩
end Go.Proofs.Ytajahomfmcbmlaa.T
