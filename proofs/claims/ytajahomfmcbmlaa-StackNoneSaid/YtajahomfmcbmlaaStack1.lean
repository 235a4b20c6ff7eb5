/-
Package stack: New, Size, Tightened; what a stack without steps does.
-/
import Derived.Test.YtajahomfmcbmlaaForm2
namespace Go.Proofs.Ytajahomfmcbmlaa.T
open Go.RowKit Go.Proofs.YtajahomfmcbmlaaW.PrintWords Go.Proofs.YtajahomfmcbmlaaW.PrintLast Go.Proofs.YtajahomfmcbmlaaW.PrintMore
set_option linter.unusedVariables false

/-- A stack without steps lies at g. -/
def Stk (w : World) (g : Nat) (x y : Int) : Prop := w.heap[g]? = some (.cells #[.int .i64 x, .int .i64 y, .int .i64 x, .int .i64 y, .bool false, .slice none 0 0] 106 (0, 0))
theorem Stk.below {w w1 : World} {g : Nat} {x y : Int} (h : Stk w g x y) (hb : Below w.heap.size w w1) : Stk w1 g x y := blk_below h hb

set_option maxRecDepth 10000 in
set_option maxHeartbeats 1000000 in
theorem stack_New (x y : Int) (w : World) (hx : 0 ≤ x ∧ x ≤ 64) (hy : 0 ≤ y ∧ y ≤ 64) :
    Calls Try.prog 12 #[.int .i64 x, .int .i64 y] w fun e w' => e = .returned (.tuple #[.pointer (some ⟨w.heap.size, 0, none⟩), .int .i64 0]) ∧ Stk w' w.heap.size x y ∧ w.heap.size < w'.heap.size ∧ Below w.heap.size w w' := by
  obtain ⟨x0, x1⟩ := hx
  obtain ⟨y0, y1⟩ := hy
  go_enter Try.func12, Try.ntmps12
  go_wp2
  go_ret2
  exact ⟨rfl, blk_new w _, by simp, Below.alloc (Below.refl _ _) (Nat.le_refl _) _⟩

set_option maxRecDepth 10000 in
set_option maxHeartbeats 1000000 in
theorem stack_NewNot (x y : Int) (w : World) (h : ¬ ((0 ≤ x ∧ x ≤ 64) ∧ (0 ≤ y ∧ y ≤ 64))) :
    Calls Try.prog 12 #[.int .i64 x, .int .i64 y] w fun e w' => e = .returned (.tuple #[.pointer none, .int .i64 1]) ∧ w = w' := by
  have H := Lib.hid h
  clear h
  go_enter Try.func12, Try.ntmps12
  go_wp2
  all_goals first | (go_ret2; exact ⟨rfl, rfl⟩) | (exfalso; have := H.out; omega)

set_option maxRecDepth 10000 in
set_option maxHeartbeats 1000000 in
theorem stack_Size (g : Nat) (x y : Int) (w : World) (h : Stk w g x y) :
    Calls Try.prog 13 #[.pointer (some ⟨g, 0, none⟩)] w fun e w' => e = .returned (.tuple #[.int .i64 x, .int .i64 y, .int .i64 x, .int .i64 y]) ∧ ∃ j, w' = w.drewN j := by
  have e0 := blk_cell h 0
  have e1 := blk_cell h 1
  have e2 := blk_cell h 2
  have e3 := blk_cell h 3
  clear h
  go_enter Try.func13, Try.ntmps13
  go_wp2
  go_quiet (fail)
  go_wp2
  refine bodyPost_ret (v := .tuple #[.int .i64 x, .int .i64 y, .int .i64 x, .int .i64 y]) (by simp [results, Try.results13, go_sem]) rfl ⟨rfl, _, rfl⟩

set_option maxRecDepth 10000 in
set_option maxHeartbeats 1000000 in
theorem stack_Tightened (g : Nat) (x y : Int) (w : World) (h : Stk w g x y) :
    Calls Try.prog 14 #[.pointer (some ⟨g, 0, none⟩)] w fun e w' => e = .returned (.bool false) ∧ ∃ j, w' = w.drewN j := by
  have e4 := blk_cell h 4
  clear h
  go_enter Try.func14, Try.ntmps14
  go_wp2
  go_ret
  exact ⟨rfl, 0, rfl⟩
end Go.Proofs.Ytajahomfmcbmlaa.T
