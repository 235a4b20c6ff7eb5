/-
tableaulaw17.StackNew answers true, for any two whole numbers.
-/
import Derived.Test.YtajahomfmcbmlaaAwake17
namespace Go.Proofs.Ytajahomfmcbmlaa.T
open Go.RowKit Go.Proofs.YtajahomfmcbmlaaW.PrintWords Go.Proofs.YtajahomfmcbmlaaW.PrintLast Go.Proofs.YtajahomfmcbmlaaW.PrintMore
set_option linter.unusedVariables false

set_option maxRecDepth 10000 in
set_option maxHeartbeats 2000000 in
theorem law_StackNew (x y : Int) (w : World) : Calls Try.prog 3 #[.int .i64 x, .int .i64 y] w fun e w' => e = .returned (.bool true) ∧ Below w.heap.size w w' := by
  by_cases h : (0 ≤ x ∧ x ≤ 64) ∧ (0 ≤ y ∧ y ≤ 64)
  · obtain ⟨⟨h1, h2⟩, h3, h4⟩ := h
    go_enter Try.func3, Try.ntmps3
    go_wp2_with fail
    refine (awake17 w).mono ?_
    rintro e w1 ⟨rfl, hb1⟩
    go_wp2_with fail
    refine (stack_New x y w1 ⟨h1, h2⟩ ⟨h3, h4⟩).mono ?_
    rintro e w2 ⟨rfl, hs2, hg2, hb2⟩
    go_wp2_with fail
    refine (stack_Size _ x y _ hs2).mono ?_
    rintro e w' ⟨rfl, j, rfl⟩
    go_wp2_with fail
    have hs3 : Stk (w2.drewN j) w1.heap.size x y := hs2
    refine (stack_Tightened _ x y _ hs3).mono ?_
    rintro e w' ⟨rfl, j2, rfl⟩
    go_wp2_with fail
    go_ret
    exact ⟨rfl, pw_below_drewN (hb1.trans (hb2.mono hb1.size)) _⟩
  · have H := Lib.hid h
    have hd := stack_NewNot x y
    clear h
    go_enter Try.func3, Try.ntmps3
    go_wp2_with fail
    refine (awake17 w).mono ?_
    rintro e w1 ⟨rfl, hb1⟩
    go_wp2_with fail
    refine (hd w1 H.out).mono ?_
    rintro e w2 ⟨rfl, rfl⟩
    clear hd
    go_wp2_with fail
    all_goals first | (go_ret; exact ⟨rfl, hb1⟩) | (exfalso; have := H.out; omega)
end Go.Proofs.Ytajahomfmcbmlaa.T
