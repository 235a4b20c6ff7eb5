/-
Package stack: the way back through no steps.
-/
import Derived.RangeFuncNested
import Derived.RangeFuncBound
import Derived.RangeFuncCalls
import Derived.RangeFuncLeaves
import Derived.Shelf.Abstract
import Derived.Shelf.RegionOpen
import Derived.WalkKit
import Derived.OwnWalkIn
import Derived.TacticsInMore
import Derived.LoopNIn
import Derived.LoopIn
import Derived.Test.YtajahomfmcbmlaaStack3
namespace Go.Proofs.Ytajahomfmcbmlaa.T
open Go.RowKit Go.Shelf Go.Proofs.YtajahomfmcbmlaaW.PrintWords Go.Proofs.YtajahomfmcbmlaaW.PrintLast Go.Proofs.YtajahomfmcbmlaaW.PrintMore
set_option linter.unusedVariables false
attribute [local go_sem] Oper.semAt_some

set_option maxRecDepth 100000 in
set_option maxHeartbeats 2000000 in
theorem back_stops (n : Nat) (g : Nat) (hn : 1 ≤ n) (w : World) (hc : w.cell? ⟨g, 0, none⟩ = some (.slice none 0 0)) (hg : g < w.heap.size) :
    SeqStopsK Fence.wide n Try.prog 102 #[.pointer (some ⟨g, 0, none⟩)] (fun e : Empty => e.elim) KeepsWalks (fun xs => True) (fun pre => True) 0 w := fun l J Jx W hb _ _ hY h0 => by
  have hc' : W.cell? ⟨g, 0, none⟩ = some (.slice none 0 0) := (hb.cell (p := ⟨g, 0, none⟩) hg).trans hc
  clear hY
  refine callsIn_of_wp Try.func102 rfl trivial ?_ rfl
  simp only [Try.ntmps102, List.size_toArray, List.length_cons, List.length_nil, Nat.reduceAdd, Nat.reduceSub, Array.replicate_succ, Array.replicate_zero, List.push_toArray, List.append_toArray, List.nil_append, List.cons_append]
  gi_wp2
  refine wpIn_loop_once ?_
  gi_wp2
  go_end0
  exact ⟨⟨_, rfl⟩, .inl ⟨[], trivial, h0⟩⟩

set_option maxRecDepth 10000 in
set_option maxHeartbeats 1000000 in
theorem slices_Backward (v : Value) (w : World) :
    Calls Try.prog 69 #[.slice none 0 0] w fun e w' => e = .returned (.func (.func 102) #[] #[.pointer (some ⟨w.heap.size, 0, none⟩)]) ∧ w.alloc (.cells #[.slice none 0 0] 104) = w' := by
  go_enter Try.func69, Try.ntmps69
  go_wp2
  go_ret
  exact ⟨rfl, rfl⟩

theorem new_nil (w : World) (n : Nat) (h : w.heap.size = n) : (w.alloc (.cells #[.slice none 0 0] 104)).cell? ⟨n, 0, none⟩ = some (.slice none 0 0) := by
  rw [← h]
  exact blk_cell (blk_new w (.cells #[.slice none 0 0] 104 (0, 0))) 0

set_option maxRecDepth 100000 in
set_option maxHeartbeats 2000000 in
theorem back_list (g : Nat) (x y : Int) (A : Option Addr) (n c : Nat) (fn : Fn) (f1 f2 : Array Value) (w : World) (hs : Stk w g x y) :
    Calls Try.prog 64 #[.pointer (some ⟨g, 0, none⟩), .slice A n c, .func fn f1 f2] w fun e w' => e = .returned (.slice A n c) ∧ Below w.heap.size w w' := by
  have hc5 := blk_cell hs 5
  have hgl := blk_lt hs
  rw [← callsIn_wide (n := 5)]
  refine callsIn_of_wp_marks Try.func64 rfl trivial ?_ rfl
  simp only [Try.ntmps64, List.size_toArray, List.length_cons, List.length_nil, Nat.reduceAdd, Nat.reduceSub, Array.replicate_succ, Array.replicate_zero, List.push_toArray, List.append_toArray, List.nil_append, List.cons_append]
  gi_wp2_with fail
  refine ⟨trivial, (callsIn_wide.2 (slices_Backward undef _)).mono ?_⟩
  rintro e w1 ⟨rfl, rfl⟩
  gi_wp2_with fail
  have hB0 : Below w.heap.size w (((w.alloc (.cells #[.slice A n c] 30)).alloc (.cells #[.func fn f1 f2] 116)).alloc (.cells #[.slice none 0 0] 104)) := (((Below.refl _ w).alloc (Nat.le_refl _) _).alloc (by simp) _).alloc (by simp; omega) _
  have h0 : (((w.alloc (.cells #[.slice A n c] 30)).alloc (.cells #[.func fn f1 f2] 116)).alloc (.cells #[.slice none 0 0] 104)).cell? ⟨w.heap.size, 0, none⟩ = some (.slice A n c) := blk_cell (blk_alloc (blk_alloc (blk_new w (.cells #[.slice A n c] 30 (0, 0))) _) _) 0
  have h2 : (((w.alloc (.cells #[.slice A n c] 30)).alloc (.cells #[.func fn f1 f2] 116)).alloc (.cells #[.slice none 0 0] 104)).cell? ⟨w.heap.size + 1 + 1, 0, none⟩ = some (.slice none 0 0) := new_nil _ _ (by simp)
  refine wpIn_rangeFunc_ownF (α := Empty) rfl (by decide) (gf := 102) (lb := #[.pointer (some ⟨w.heap.size + 1 + 1, 0, none⟩)]) rfl trivial (enters_of Try.func102 (by kernel_rfl) rfl)
    (back_stops 4 _ (by decide) _ h2 (by simp)) walksK_t walksK_b (Below.refl _ _) (fun x => x.elim)
    (fun pre W => W.cell? ⟨w.heap.size, 0, none⟩ = some (.slice A n c) ∧ Below w.heap.size w W)
    (fun _ _ _ => False)
    (OwnFrom.and (Own.from (fun s A B row hs hg hr => cell_kept hs hg hr) _) (ownFrom_below (Nat.le_refl _) (by simp; omega)))
    (fun _ _ _ _ _ hs _ _ => hs)
    ⟨h0, hB0⟩
    (fun x => x.elim) (fun l x => x.elim) (fun l pre x => x.elim) ?done ?stop
  case done =>
    rintro D ys W hD _ ⟨hc, hB⟩ hK
    gi_wp2
    refine ⟨by simp, .inl ⟨_, _, rfl, run_takeDeferred hK, ?_⟩⟩
    exact ⟨_, results_tmp rfl _ _ _, rfl, hB.trans (belowK_b (w := w) (Nat.le_refl _) W D _ _ (by simp at hD; omega) hK rfl rfl)⟩
  case stop =>
    rintro D c pre W _ _ h _
    exact h.elim
end Go.Proofs.Ytajahomfmcbmlaa.T
