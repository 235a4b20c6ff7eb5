/-
Package stack: Lift, Cert, Dual without steps.
-/
import Derived.Test.YtajahomfmcbmlaaPts
namespace Go.Proofs.Ytajahomfmcbmlaa.T
open Go.RowKit Go.Shelf Go.Proofs.YtajahomfmcbmlaaW.PrintWords Go.Proofs.YtajahomfmcbmlaaW.PrintLast Go.Proofs.YtajahomfmcbmlaaW.PrintMore
set_option linter.unusedVariables false
attribute [local go_sem] Oper.semAt_some

set_option maxRecDepth 10000 in
set_option maxHeartbeats 1000000 in
theorem stack_Lift (g : Nat) (x y : Int) (A : Option Addr) (n c : Nat) (xs : List Rw) (w : World) (hs : Stk w g x y) (hn : n = xs.length) (hL : Lst w A xs) :
    Calls Try.prog 28 #[.pointer (some ⟨g, 0, none⟩), .slice A n c] w fun e w' => Below w.heap.size w w' ∧
      (fitsE [xs] [] x y = 0 → ∃ v, e = .returned (.tuple #[v, .int .i64 0]) ∧ Oq w' w.heap.size v xs) ∧
      (fitsE [xs] [] x y ≠ 0 → e = .returned (.tuple #[.slice none 0 0, .int .i64 (fitsE [xs] [] x y)])) := by
  subst hn
  have HL := Lib.hid hL
  have HS := Lib.hid hs
  clear hL hs
  obtain ⟨E, hE⟩ : ∃ E, fitsE [xs] [] x y = E := ⟨_, rfl⟩
  have hw : ∀ o, Below w.heap.size w (w.alloc o) := fun o => Below.alloc (Below.refl _ _) (Nat.le_refl _) _
  rw [hE]
  have HE := Lib.hid hE
  clear hE
  by_cases h0 : E = 0
  · go_enter Try.func28, Try.ntmps28
    go_wp2_with fail
    refine (stack_fits g x y _ _ _ _ _ _ [xs] [] _ (HS.out.below (hw _)) (Fit.one (HL.out.below (hw _)) (blk_new w _)) (Fit.nil _)).mono ?_
    rintro e w1 ⟨rfl, hb1⟩
    rw [HE.out, h0]
    have hb1 := (hw _).trans (hb1.mono (hw _).size)
    go_wp2_with fail
    refine (back_list g x y A _ c _ _ _ _ (HS.out.below hb1)).mono ?_
    rintro e w2 ⟨rfl, hb2⟩
    have hb2 := hb1.trans (hb2.mono hb1.size)
    go_wp2_with fail
    refine (calc_Copies A _ c xs _ rfl HL.out.small HL.out.short (HL.out.reads.below hb2)).mono ?_
    rintro e w3 ⟨v, rfl, hv, hb3⟩
    go_wp2_with fail
    go_ret2
    exact ⟨hb2.trans (hb3.mono hb2.size), fun _ => ⟨_, rfl, Kd.R_lower hv hb2.size⟩, fun h => absurd h0 h⟩
  · have h1 : (E != 0) = true := by simpa using h0
    have H0 := Lib.hid h0
    clear h0
    go_enter Try.func28, Try.ntmps28
    go_wp2_with fail
    refine (stack_fits g x y _ _ _ _ _ _ [xs] [] _ (HS.out.below (hw _)) (Fit.one (HL.out.below (hw _)) (blk_new w _)) (Fit.nil _)).mono ?_
    rintro e w1 ⟨rfl, hb1⟩
    rw [HE.out]
    have hb1 := (hw _).trans (hb1.mono (hw _).size)
    go_wp2_with fail
    go_ret2
    exact ⟨hb1, fun h => absurd h H0.out, fun _ => rfl⟩

set_option maxRecDepth 100000 in
set_option maxHeartbeats 2000000 in
theorem back_point (g : Nat) (x y : Int) (A B C : Option Addr) (n0 c0 n1 c1 n2 c2 : Nat) (fn : Fn) (f1 f2 : Array Value) (w : World) (hs : Stk w g x y) :
    Calls Try.prog 62 #[.pointer (some ⟨g, 0, none⟩), .agg #[.slice A n0 c0, .slice B n1 c1, .slice C n2 c2], .func fn f1 f2] w fun r w' => r = .returned (.agg #[.slice A n0 c0, .slice B n1 c1, .slice C n2 c2]) ∧ Below w.heap.size w w' := by
  have hc5 := blk_cell hs 5
  have hgl := blk_lt hs
  have hba : ∀ o1 o2 o3, Below w.heap.size w (((w.alloc o1).alloc o2).alloc o3) := fun o1 o2 o3 => (((Below.refl _ w).alloc (Nat.le_refl _) _).alloc (by simp) _).alloc (by simp; omega) _
  have hc6 : ∀ o1 o2 o3, (((w.alloc o1).alloc o2).alloc o3).cell? ⟨g, 5, none⟩ = some (.slice none 0 0) := fun o1 o2 o3 => pw_cell_below (hba o1 o2 o3) hc5
  rw [← callsIn_wide (n := 5)]
  refine callsIn_of_wp_marks Try.func62 rfl trivial ?_ rfl
  simp only [Try.ntmps62, List.size_toArray, List.length_cons, List.length_nil, Nat.reduceAdd, Nat.reduceSub, Array.replicate_succ, Array.replicate_zero, List.push_toArray, List.append_toArray, List.nil_append, List.cons_append]
  gi_wp2_with fail
  refine ⟨trivial, (callsIn_wide.2 (slices_Backward undef _)).mono ?_⟩
  rintro e1 w1 ⟨rfl, rfl⟩
  clear hc6 hc5
  gi_wp2_with fail
  have hB0 : Below w.heap.size w ((((w.alloc (.cells #[.slice A n0 c0, .slice B n1 c1, .slice C n2 c2] 43)).alloc (.cells #[.func fn f1 f2] 114)).alloc (.cells #[.slice none 0 0, .slice none 0 0, .slice none 0 0] 43)).alloc (.cells #[.slice none 0 0] 104)) := (hba _ _ _).alloc (by simp; omega) _
  have h0 : ((((w.alloc (.cells #[.slice A n0 c0, .slice B n1 c1, .slice C n2 c2] 43)).alloc (.cells #[.func fn f1 f2] 114)).alloc (.cells #[.slice none 0 0, .slice none 0 0, .slice none 0 0] 43)).alloc (.cells #[.slice none 0 0] 104)).heap[w.heap.size]? = some (.cells #[.slice A n0 c0, .slice B n1 c1, .slice C n2 c2] 43 (0, 0)) := blk_alloc (blk_alloc (blk_alloc (blk_new w (.cells #[.slice A n0 c0, .slice B n1 c1, .slice C n2 c2] 43 (0, 0))) _) _) _
  have h1 : ((((w.alloc (.cells #[.slice A n0 c0, .slice B n1 c1, .slice C n2 c2] 43)).alloc (.cells #[.func fn f1 f2] 114)).alloc (.cells #[.slice none 0 0, .slice none 0 0, .slice none 0 0] 43)).alloc (.cells #[.slice none 0 0] 104)).heap[w.heap.size + 1 + 1]? = some (.cells #[.slice none 0 0, .slice none 0 0, .slice none 0 0] 43 (0, 0)) := blk_alloc (by have := blk_new ((w.alloc (.cells #[.slice A n0 c0, .slice B n1 c1, .slice C n2 c2] 43)).alloc (.cells #[.func fn f1 f2] 114)) (.cells #[.slice none 0 0, .slice none 0 0, .slice none 0 0] 43 (0, 0)); simpa using this) _
  have h2 : ((((w.alloc (.cells #[.slice A n0 c0, .slice B n1 c1, .slice C n2 c2] 43)).alloc (.cells #[.func fn f1 f2] 114)).alloc (.cells #[.slice none 0 0, .slice none 0 0, .slice none 0 0] 43)).alloc (.cells #[.slice none 0 0] 104)).cell? ⟨w.heap.size + 1 + 1 + 1, 0, none⟩ = some (.slice none 0 0) := new_nil _ _ (by simp)
  refine wpIn_rangeFunc_ownF (α := Empty) rfl (by decide) (gf := 102) (lb := #[.pointer (some ⟨w.heap.size + 1 + 1 + 1, 0, none⟩)]) rfl trivial (enters_of Try.func102 (by kernel_rfl) rfl)
    (back_stops 4 _ (by decide) _ h2 (by simp)) walksK_t walksK_b (Below.refl _ _) (fun x => x.elim)
    (fun pre W => W.heap[w.heap.size]? = some (.cells #[.slice A n0 c0, .slice B n1 c1, .slice C n2 c2] 43 (0, 0)) ∧ W.heap[w.heap.size + 1 + 1]? = some (.cells #[.slice none 0 0, .slice none 0 0, .slice none 0 0] 43 (0, 0)) ∧ Below w.heap.size w W)
    (fun _ _ _ => False)
    (OwnFrom.and (Own.from (fun s A B row hs hg hr => (grownBy_keeps_cells hg hr hs rfl).trans hs) _) (OwnFrom.and (Own.from (fun s A B row hs hg hr => (grownBy_keeps_cells hg hr hs rfl).trans hs) _) (ownFrom_below (Nat.le_refl _) (by simp; omega))))
    (fun _ _ _ _ _ hs _ _ => hs)
    ⟨h0, h1, hB0⟩
    (fun x => x.elim) (fun l x => x.elim) (fun l pre x => x.elim) ?done ?stop
  case done =>
    rintro Db ys W hD _ ⟨hx, hy, hB⟩ hK
    have hx0 := blk_cell hx 0
    have hx1 := blk_cell hx 1
    have hx2 := blk_cell hx 2
    have hy0 := blk_cell hy 0
    have hy1 := blk_cell hy 1
    have hy2 := blk_cell hy 2
    have hf := blk_frozen hy
    have hD2 : w.heap.size + 1 + 1 ≠ Db := by simp at hD; omega
    gi_wp2
    refine ⟨by simp, .inl ⟨_, _, rfl, run_takeDeferred (b := Db) (by
      show (set3 W (w.heap.size + 1 + 1) _ _ _).heap[Db]? = _
      repeat (refine (Below.heap_setCell _ _ _ _ hD2.symm).trans ?_)
      exact hK), ?_⟩⟩
    refine ⟨_, results_cell_row rfl _ _ (w.heap.size + 1 + 1) 43 #[.slice A n0 c0, .slice B n1 c1, .slice C n2 c2] (0, 0) _ rfl ((World.putObj_heap_other hD2).trans (set3_blk hy _ _ _)) Try.underlying43 rfl (by kernel_rfl), rfl, ?_⟩
    refine (set3_below hB (by omega) _ _ _).trans (belowK_b (w := w) (Nat.le_refl _) _ Db (.deferred (some [])) (.deferred none) (by simp at hD; omega) ?_ rfl rfl)
    show (set3 W (w.heap.size + 1 + 1) _ _ _).heap[Db]? = _
    repeat (refine (Below.heap_setCell _ _ _ _ hD2.symm).trans ?_)
    exact hK
  case stop =>
    rintro D c pre W _ _ h _
    exact h.elim

set_option maxRecDepth 100000 in
set_option maxHeartbeats 2000000 in
theorem back_cert (g : Nat) (x y : Int) (A B C D : Option Addr) (n0 c0 n1 c1 n2 c2 n3 c3 : Nat) (fn : Fn) (f1 f2 : Array Value) (w : World) (hs : Stk w g x y) :
    Calls Try.prog 57 #[.pointer (some ⟨g, 0, none⟩), .agg #[.slice A n0 c0, .slice B n1 c1, .slice C n2 c2, .slice D n3 c3], .func fn f1 f2] w fun r w' => r = .returned (.agg #[.slice A n0 c0, .slice B n1 c1, .slice C n2 c2, .slice D n3 c3]) ∧ Below w.heap.size w w' := by
  have hc5 := blk_cell hs 5
  have hgl := blk_lt hs
  have hba : ∀ o1 o2 o3, Below w.heap.size w (((w.alloc o1).alloc o2).alloc o3) := fun o1 o2 o3 => (((Below.refl _ w).alloc (Nat.le_refl _) _).alloc (by simp) _).alloc (by simp; omega) _
  have hc6 : ∀ o1 o2 o3, (((w.alloc o1).alloc o2).alloc o3).cell? ⟨g, 5, none⟩ = some (.slice none 0 0) := fun o1 o2 o3 => pw_cell_below (hba o1 o2 o3) hc5
  rw [← callsIn_wide (n := 5)]
  refine callsIn_of_wp_marks Try.func57 rfl trivial ?_ rfl
  simp only [Try.ntmps57, List.size_toArray, List.length_cons, List.length_nil, Nat.reduceAdd, Nat.reduceSub, Array.replicate_succ, Array.replicate_zero, List.push_toArray, List.append_toArray, List.nil_append, List.cons_append]
  gi_wp2_with fail
  refine ⟨trivial, (callsIn_wide.2 (slices_Backward undef _)).mono ?_⟩
  rintro e1 w1 ⟨rfl, rfl⟩
  clear hc6 hc5
  gi_wp2_with fail
  have hB0 : Below w.heap.size w ((((w.alloc (.cells #[.slice A n0 c0, .slice B n1 c1, .slice C n2 c2, .slice D n3 c3] 32)).alloc (.cells #[.func fn f1 f2] 111)).alloc (.cells #[.slice none 0 0, .slice none 0 0, .slice none 0 0, .slice none 0 0] 32)).alloc (.cells #[.slice none 0 0] 104)) := (hba _ _ _).alloc (by simp; omega) _
  have h0 : ((((w.alloc (.cells #[.slice A n0 c0, .slice B n1 c1, .slice C n2 c2, .slice D n3 c3] 32)).alloc (.cells #[.func fn f1 f2] 111)).alloc (.cells #[.slice none 0 0, .slice none 0 0, .slice none 0 0, .slice none 0 0] 32)).alloc (.cells #[.slice none 0 0] 104)).heap[w.heap.size]? = some (.cells #[.slice A n0 c0, .slice B n1 c1, .slice C n2 c2, .slice D n3 c3] 32 (0, 0)) := blk_alloc (blk_alloc (blk_alloc (blk_new w (.cells #[.slice A n0 c0, .slice B n1 c1, .slice C n2 c2, .slice D n3 c3] 32 (0, 0))) _) _) _
  have h1 : ((((w.alloc (.cells #[.slice A n0 c0, .slice B n1 c1, .slice C n2 c2, .slice D n3 c3] 32)).alloc (.cells #[.func fn f1 f2] 111)).alloc (.cells #[.slice none 0 0, .slice none 0 0, .slice none 0 0, .slice none 0 0] 32)).alloc (.cells #[.slice none 0 0] 104)).heap[w.heap.size + 1 + 1]? = some (.cells #[.slice none 0 0, .slice none 0 0, .slice none 0 0, .slice none 0 0] 32 (0, 0)) := blk_alloc (by have := blk_new ((w.alloc (.cells #[.slice A n0 c0, .slice B n1 c1, .slice C n2 c2, .slice D n3 c3] 32)).alloc (.cells #[.func fn f1 f2] 111)) (.cells #[.slice none 0 0, .slice none 0 0, .slice none 0 0, .slice none 0 0] 32 (0, 0)); simpa using this) _
  have h2 : ((((w.alloc (.cells #[.slice A n0 c0, .slice B n1 c1, .slice C n2 c2, .slice D n3 c3] 32)).alloc (.cells #[.func fn f1 f2] 111)).alloc (.cells #[.slice none 0 0, .slice none 0 0, .slice none 0 0, .slice none 0 0] 32)).alloc (.cells #[.slice none 0 0] 104)).cell? ⟨w.heap.size + 1 + 1 + 1, 0, none⟩ = some (.slice none 0 0) := new_nil _ _ (by simp)
  refine wpIn_rangeFunc_ownF (α := Empty) rfl (by decide) (gf := 102) (lb := #[.pointer (some ⟨w.heap.size + 1 + 1 + 1, 0, none⟩)]) rfl trivial (enters_of Try.func102 (by kernel_rfl) rfl)
    (back_stops 4 _ (by decide) _ h2 (by simp)) walksK_t walksK_b (Below.refl _ _) (fun x => x.elim)
    (fun pre W => W.heap[w.heap.size]? = some (.cells #[.slice A n0 c0, .slice B n1 c1, .slice C n2 c2, .slice D n3 c3] 32 (0, 0)) ∧ W.heap[w.heap.size + 1 + 1]? = some (.cells #[.slice none 0 0, .slice none 0 0, .slice none 0 0, .slice none 0 0] 32 (0, 0)) ∧ Below w.heap.size w W)
    (fun _ _ _ => False)
    (OwnFrom.and (Own.from (fun s A B row hs hg hr => (grownBy_keeps_cells hg hr hs rfl).trans hs) _) (OwnFrom.and (Own.from (fun s A B row hs hg hr => (grownBy_keeps_cells hg hr hs rfl).trans hs) _) (ownFrom_below (Nat.le_refl _) (by simp; omega))))
    (fun _ _ _ _ _ hs _ _ => hs)
    ⟨h0, h1, hB0⟩
    (fun x => x.elim) (fun l x => x.elim) (fun l pre x => x.elim) ?done ?stop
  case done =>
    rintro Db ys W hD _ ⟨hx, hy, hB⟩ hK
    have hx0 := blk_cell hx 0
    have hx1 := blk_cell hx 1
    have hx2 := blk_cell hx 2
    have hx3 := blk_cell hx 3
    have hy0 := blk_cell hy 0
    have hy1 := blk_cell hy 1
    have hy2 := blk_cell hy 2
    have hy3 := blk_cell hy 3
    have hf := blk_frozen hy
    have hD2 : w.heap.size + 1 + 1 ≠ Db := by simp at hD; omega
    gi_wp2
    refine ⟨by simp, .inl ⟨_, _, rfl, run_takeDeferred (b := Db) (by
      show (set4 W (w.heap.size + 1 + 1) _ _ _ _).heap[Db]? = _
      repeat (refine (Below.heap_setCell _ _ _ _ hD2.symm).trans ?_)
      exact hK), ?_⟩⟩
    refine ⟨_, results_cell_row rfl _ _ (w.heap.size + 1 + 1) 32 #[.slice A n0 c0, .slice B n1 c1, .slice C n2 c2, .slice D n3 c3] (0, 0) _ rfl ((World.putObj_heap_other hD2).trans (set4_blk hy _ _ _ _)) Try.underlying32 rfl (by kernel_rfl), rfl, ?_⟩
    refine (set4_below hB (by omega) _ _ _ _).trans (belowK_b (w := w) (Nat.le_refl _) _ Db (.deferred (some [])) (.deferred none) (by simp at hD; omega) ?_ rfl rfl)
    show (set4 W (w.heap.size + 1 + 1) _ _ _ _).heap[Db]? = _
    repeat (refine (Below.heap_setCell _ _ _ _ hD2.symm).trans ?_)
    exact hK
  case stop =>
    rintro D c pre W _ _ h _
    exact h.elim
end Go.Proofs.Ytajahomfmcbmlaa.T
