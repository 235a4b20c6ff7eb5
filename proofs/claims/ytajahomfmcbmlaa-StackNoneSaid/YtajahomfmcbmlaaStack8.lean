/-
Package stack: Cert without steps.
-/
import Derived.Test.YtajahomfmcbmlaaStack7
namespace Go.Proofs.Ytajahomfmcbmlaa.T
open Go.RowKit Go.Proofs.YtajahomfmcbmlaaW.PrintWords Go.Proofs.YtajahomfmcbmlaaW.PrintLast Go.Proofs.YtajahomfmcbmlaaW.PrintMore
set_option linter.unusedVariables false

set_option maxRecDepth 10000 in
set_option maxHeartbeats 8000000 in
theorem stack_Cert (g : Nat) (x y : Int) (A B C D : Option Addr) (n0 c0 n1 c1 n2 c2 n3 c3 : Nat) (xs0 xs1 xs2 xs3 : List Rw) (w : World) (hs : Stk w g x y) (h0 : Lst w A xs0) (e0 : n0 = xs0.length) (h1 : Lst w B xs1) (e1 : n1 = xs1.length) (h2 : Lst w C xs2) (e2 : n2 = xs2.length) (h3 : Lst w D xs3) (e3 : n3 = xs3.length) :
    Calls Try.prog 16 #[.pointer (some ⟨g, 0, none⟩), .agg #[.slice A n0 c0, .slice B n1 c1, .slice C n2 c2, .slice D n3 c3]] w fun e w' => Below w.heap.size w w' ∧
      (fitsE [xs2, xs3] [xs0, xs1] x y = 0 → ∃ v0 v1 v2 v3, e = .returned (.tuple #[.agg #[v0, v1, v2, v3], .int .i64 0]) ∧ Oq w' w.heap.size v0 xs0 ∧ Oq w' w.heap.size v1 xs1 ∧ Oq w' w.heap.size v2 xs2 ∧ Oq w' w.heap.size v3 xs3) ∧
      (fitsE [xs2, xs3] [xs0, xs1] x y ≠ 0 → e = .returned (.tuple #[.agg #[.slice none 0 0, .slice none 0 0, .slice none 0 0, .slice none 0 0], .int .i64 (fitsE [xs2, xs3] [xs0, xs1] x y)])) := by
  have HS := Lib.hid hs
  have E0 := Lib.hid e0
  have E1 := Lib.hid e1
  have E2 := Lib.hid e2
  have E3 := Lib.hid e3
  clear hs e0 e1 e2 e3
  obtain ⟨E, hE⟩ : ∃ E, fitsE [xs2, xs3] [xs0, xs1] x y = E := ⟨_, rfl⟩
  rw [hE]
  have HE := Lib.hid hE
  clear hE
  have hw : ∀ o1 o2 o3 o4, Below w.heap.size w ((((w.alloc o1).alloc o2).alloc o3).alloc o4) := fun o1 o2 o3 o4 => ((((Below.refl _ w).alloc (Nat.le_refl _) _).alloc (by simp) _).alloc (by simp; omega) _).alloc (by simp; omega) _
  go_enter Try.func16, Try.ntmps16
  go_wp2_with fail
  refine (stack_fits g x y _ _ _ _ _ _ [xs2, xs3] [xs0, xs1] _ (HS.out.below (hw _ _ _ _)) (Fit.two (h2.below (hw _ _ _ _)) (h3.below (hw _ _ _ _)) E2.out E3.out (blk_alloc (by have := blk_new ((w.alloc (.cells #[.slice A n0 c0, .slice B n1 c1, .slice C n2 c2, .slice D n3 c3] 32)).alloc (.cells #[.slice none 0 0, .slice none 0 0, .slice none 0 0, .slice none 0 0] 32)) (.cells #[.slice C n2 c2, .slice D n3 c3] 30 (0, 0)); simpa using this) _)) (Fit.two (h0.below (hw _ _ _ _)) (h1.below (hw _ _ _ _)) E0.out E1.out (by have := blk_new (((w.alloc (.cells #[.slice A n0 c0, .slice B n1 c1, .slice C n2 c2, .slice D n3 c3] 32)).alloc (.cells #[.slice none 0 0, .slice none 0 0, .slice none 0 0, .slice none 0 0] 32)).alloc (.cells #[.slice C n2 c2, .slice D n3 c3] 30)) (.cells #[.slice A n0 c0, .slice B n1 c1] 30 (0, 0)); simpa using this))).mono ?_
  rintro e w1 ⟨rfl, hb1⟩
  rw [HE.out]
  have hx1 : w1.heap[w.heap.size]? = some (.cells #[.slice A n0 c0, .slice B n1 c1, .slice C n2 c2, .slice D n3 c3] 32 (0, 0)) := blk_below (blk_alloc (blk_alloc (blk_alloc (blk_new w _) _) _) _) hb1
  have hy1 : w1.heap[w.heap.size + 1]? = some (.cells #[.slice none 0 0, .slice none 0 0, .slice none 0 0, .slice none 0 0] 32 (0, 0)) := blk_below (blk_alloc (blk_alloc (by have := blk_new (w.alloc (.cells #[.slice A n0 c0, .slice B n1 c1, .slice C n2 c2, .slice D n3 c3] 32)) (.cells #[.slice none 0 0, .slice none 0 0, .slice none 0 0, .slice none 0 0] 32 (0, 0)); simpa using this) _) _) hb1
  have hb1 := (hw _ _ _ _).trans (hb1.mono (hw _ _ _ _).size)
  have hs1 : w.heap.size + 1 < w1.heap.size := blk_lt hy1
  by_cases hE0 : E = 0
  · rw [hE0]
    have HE0 := Lib.hid hE0
    clear hE0
    have u0 := blk_cell hx1 0
    have u1 := blk_cell hx1 1
    have u2 := blk_cell hx1 2
    have u3 := blk_cell hx1 3
    go_wp2_with fail
    refine (back_cert g x y A B C D _ _ _ _ _ _ _ _ _ _ _ _ (HS.out.below hb1)).mono ?_
    rintro e w2 ⟨rfl, hb2⟩
    have hb3 := hb1.trans (hb2.mono hb1.size)
    have hx2 := blk_below hx1 hb2
    have hy2 := blk_below hy1 hb2
    have hs2 : w.heap.size + 1 < w2.heap.size := blk_lt hy2
    clear u0 u1 u2 u3
    have u0 := blk_cell hx2 0
    have u1 := blk_cell hx2 1
    have u2 := blk_cell hx2 2
    have u3 := blk_cell hx2 3
    have uf := blk_frozen hx2
    go_wp2_with fail
    have hx2 := set4_blk hx2 (.slice A n0 c0) (.slice B n1 c1) (.slice C n2 c2) (.slice D n3 c3)
    have hy2 : (set4 w2 w.heap.size (.slice A n0 c0) (.slice B n1 c1) (.slice C n2 c2) (.slice D n3 c3)).heap[w.heap.size + 1]? = some (.cells #[.slice none 0 0, .slice none 0 0, .slice none 0 0, .slice none 0 0] 32 (0, 0)) := (blk_far (blk_far (blk_far (blk_far hy2 (p := ⟨w.heap.size, 0, none⟩) (by simp) (.slice A n0 c0)) (p := ⟨w.heap.size, 1, none⟩) (by simp) (.slice B n1 c1)) (p := ⟨w.heap.size, 2, none⟩) (by simp) (.slice C n2 c2)) (p := ⟨w.heap.size, 3, none⟩) (by simp) (.slice D n3 c3))
    have hb3 := set4_below hb3 (Nat.le_refl _) (.slice A n0 c0) (.slice B n1 c1) (.slice C n2 c2) (.slice D n3 c3)
    have hsz : (set4 w2 w.heap.size (.slice A n0 c0) (.slice B n1 c1) (.slice C n2 c2) (.slice D n3 c3)).heap.size = w2.heap.size := by simp
    change Code.wp _ _ _ _ (set4 w2 w.heap.size (.slice A n0 c0) (.slice B n1 c1) (.slice C n2 c2) (.slice D n3 c3))
    rw [← hsz] at hs2
    generalize (set4 w2 w.heap.size (.slice A n0 c0) (.slice B n1 c1) (.slice C n2 c2) (.slice D n3 c3)) = w2 at hx2 hy2 hb3 hs2 ⊢
    have hd3 : Below w.heap.size w w2.drew := hb3.drew
    go_region_held3 (fun w' => w'.cell? ⟨w.heap.size, 0, none⟩ = some (.slice A n0 c0) ∧ w'.cell? ⟨w.heap.size, 1, none⟩ = some (.slice B n1 c1) ∧ w'.cell? ⟨w.heap.size, 2, none⟩ = some (.slice C n2 c2) ∧ w'.cell? ⟨w.heap.size, 3, none⟩ = some (.slice D n3 c3)) (first | exact hS3 | exact hS2 | exact hS1 | exact hS0 | exact And.intro (blk_cell hx2 0) (And.intro (blk_cell hx2 1) (And.intro (blk_cell hx2 2) (blk_cell hx2 3))) | go_keep)
      (first
        | (go_at_call_of 59 A; refine (calc_Copies A n0 c0 xs0 _ E0.out h0.small (by have := h0.short; have := E0.out; omega) (h0.reads.below hd3)).mono ?_; rintro e w10 ⟨v0, rfl, hv0, hb10⟩
           obtain ⟨A0, d0, rfl⟩ := Kd.R_slice hv0
           have hw10 := hd3.trans (hb10.mono hd3.size)
           have hx10 := blk_below (blk_drew hx2) hb10
           have hy10 := blk_below (blk_drew hy2) hb10
           have hS0 := And.intro (blk_cell hx10 0) (And.intro (blk_cell hx10 1) (And.intro (blk_cell hx10 2) (blk_cell hx10 3))))
        | (go_at_call_of 59 B; refine (calc_Copies B n1 c1 xs1 _ E1.out h1.small (by have := h1.short; have := E1.out; omega) (h1.reads.below hw10)).mono ?_; rintro e w11 ⟨v1, rfl, hv1, hb11⟩
           obtain ⟨A1, d1, rfl⟩ := Kd.R_slice hv1
           have hw11 := hw10.trans (hb11.mono hw10.size)
           have hx11 := blk_below hx10 hb11
           have hy11 := blk_below hy10 hb11
           have hS1 := And.intro (blk_cell hx11 0) (And.intro (blk_cell hx11 1) (And.intro (blk_cell hx11 2) (blk_cell hx11 3))))
        | (go_at_call_of 59 C; refine (calc_Copies C n2 c2 xs2 _ E2.out h2.small (by have := h2.short; have := E2.out; omega) (h2.reads.below hw11)).mono ?_; rintro e w12 ⟨v2, rfl, hv2, hb12⟩
           obtain ⟨A2, d2, rfl⟩ := Kd.R_slice hv2
           have hw12 := hw11.trans (hb12.mono hw11.size)
           have hx12 := blk_below hx11 hb12
           have hy12 := blk_below hy11 hb12
           have hS2 := And.intro (blk_cell hx12 0) (And.intro (blk_cell hx12 1) (And.intro (blk_cell hx12 2) (blk_cell hx12 3))))
        | (go_at_call_of 59 D; refine (calc_Copies D n3 c3 xs3 _ E3.out h3.small (by have := h3.short; have := E3.out; omega) (h3.reads.below hw12)).mono ?_; rintro e w13 ⟨v3, rfl, hv3, hb13⟩
           obtain ⟨A3, d3, rfl⟩ := Kd.R_slice hv3
           have hw13 := hw12.trans (hb13.mono hw12.size)
           have hx13 := blk_below hx12 hb13
           have hy13 := blk_below hy12 hb13
           have hS3 := And.intro (blk_cell hx13 0) (And.intro (blk_cell hx13 1) (And.intro (blk_cell hx13 2) (blk_cell hx13 3)))
           have hz0 := blk_cell hy13 0
           have hz1 := blk_cell hy13 1
           have hz2 := blk_cell hy13 2
           have hz3 := blk_cell hy13 3
           have hf := blk_frozen hy13))
    go_wp2_with fail
    refine bodyPost_ret (results_cell_tmp rfl _ _ (w.heap.size + 1) 32 #[.slice A0 _ d0, .slice A1 _ d1, .slice A2 _ d2, .slice A3 _ d3] (0, 0) _ rfl (set4_blk hy13 _ _ _ _) Try.underlying32 rfl (by kernel_rfl)) rfl ?_
    have hsz2 : w2.drew.heap.size = w2.heap.size := rfl
    have q0 := hd3.size
    have q1 := hb10.size
    have q2 := hb11.size
    have q3 := hb12.size
    have q4 := hb13.size
    refine ⟨set4_below hw13 (by omega) _ _ _ _, fun _ => ⟨_, _, _, _, rfl, Oq.set4 (Kd.R_below (Kd.R_below (Kd.R_below hv0 hb11) hb12) hb13) (by omega) (by omega) _ _ _ _, Oq.set4 (Kd.R_below (Kd.R_below hv1 hb12) hb13) (by omega) (by omega) _ _ _ _, Oq.set4 (Kd.R_below hv2 hb13) (by omega) (by omega) _ _ _ _, Oq.set4 hv3 (by omega) (by omega) _ _ _ _⟩, fun h => absurd HE0.out h⟩
  · have hE1 : (E != 0) = true := by simpa using hE0
    have HE0 := Lib.hid hE0
    clear hE0
    have hz0 := blk_cell hy1 0
    have hz1 := blk_cell hy1 1
    have hz2 := blk_cell hy1 2
    have hz3 := blk_cell hy1 3
    have hf := blk_frozen hy1
    go_wp2_with fail
    refine bodyPost_ret (results_cell_tmp rfl _ _ (w.heap.size + 1) 32 #[.slice none 0 0, .slice none 0 0, .slice none 0 0, .slice none 0 0] (0, 0) _ rfl (set4_blk hy1 _ _ _ _) Try.underlying32 rfl (by kernel_rfl)) rfl ?_
    exact ⟨set4_below hb1 (by omega) _ _ _ _, fun h => absurd h HE0.out, fun _ => rfl⟩
end Go.Proofs.Ytajahomfmcbmlaa.T
