/-
Package stack: what a nil stack answers.
-/
import Derived.Test.YtajahomfmcbmlaaStack8
import Derived.Test.YtajahomfmcbmlaaLists
namespace Go.Proofs.Ytajahomfmcbmlaa.T
open Go.RowKit Go.Proofs.YtajahomfmcbmlaaW.PrintWords Go.Proofs.YtajahomfmcbmlaaW.PrintLast Go.Proofs.YtajahomfmcbmlaaW.PrintMore
set_option linter.unusedVariables false

theorem results_cell_cell_tmp {P : Program} {fn : Func} {p p2 q : Tmp} {ty ty2 : TypeId} (h : fn.results = #[.cell p ty, .cell p2 ty2, .tmp q]) (tmps : Array Value) (w : World) (g g2 : Nat) (t t2 : TypeId) (cs cs2 : Array Value) (fr fr2 : Nat × Nat) (d d2 : TypeDesc)
    (hp : tmps.getD p undef = .pointer (some ⟨g, 0, none⟩)) (hg : w.heap[g]? = some (.cells cs t fr)) (hu : P.underlying ty = some d) (hd : (match d with | .struct _ | .array _ _ => true | _ => false) = true) (hi : (P.info? ty).map (·.size) = some cs.size)
    (hp2 : tmps.getD p2 undef = .pointer (some ⟨g2, 0, none⟩)) (hg2 : w.heap[g2]? = some (.cells cs2 t2 fr2)) (hu2 : P.underlying ty2 = some d2) (hd2 : (match d2 with | .struct _ | .array _ _ => true | _ => false) = true) (hi2 : (P.info? ty2).map (·.size) = some cs2.size) :
    (results fn tmps).run P w = .ok (.tuple #[.agg cs, .agg cs2, tmps.getD q undef]) w := by
  have hp' : tmps[p]?.getD undef = .pointer (some ⟨g, 0, none⟩) := by simpa using hp
  have hp2' : tmps[p2]?.getD undef = .pointer (some ⟨g2, 0, none⟩) := by simpa using hp2
  simp [results, h, hp', hp2', asAddr, run_loadVar_row w g t ty cs fr d hg hu hd hi, run_loadVar_row w g2 t2 ty2 cs2 fr2 d2 hg2 hu2 hd2 hi2, Sem.run_bind, Result.andThen]

set_option maxRecDepth 10000 in
theorem nil_fits (A B : Option Addr) (n c m d : Nat) (w : World) : Calls Try.prog 56 #[.pointer none, .slice A n c, .slice B m d] w fun e w' => e = .returned (.int .i64 9) ∧ Below w.heap.size w w' := by
  go_enter Try.func56, Try.ntmps56
  go_wp2
  go_ret
  exact ⟨rfl, Below.refl _ _⟩
set_option maxRecDepth 10000 in
theorem nil_Size (w : World) : Calls Try.prog 13 #[.pointer none] w fun e w' => e = .returned (.tuple #[.int .i64 0, .int .i64 0, .int .i64 0, .int .i64 0]) ∧ w = w' := by
  go_enter Try.func13, Try.ntmps13
  go_wp2
  refine bodyPost_ret (v := .tuple #[.int .i64 0, .int .i64 0, .int .i64 0, .int .i64 0]) (by simp [results, Try.results13, go_sem]) rfl ⟨rfl, rfl⟩
set_option maxRecDepth 10000 in
theorem nil_Tightened (w : World) : Calls Try.prog 14 #[.pointer none] w fun e w' => e = .returned (.bool false) ∧ w = w' := by
  go_enter Try.func14, Try.ntmps14
  go_wp2
  go_ret
  exact ⟨rfl, rfl⟩

set_option maxRecDepth 10000 in
theorem nil_Primal (A : Option Addr) (n c : Nat) (w : World) : Calls Try.prog 23 #[.pointer none, .slice A n c] w fun e w' => e = .returned (.tuple #[.slice none 0 0, .int .i64 9]) ∧ Below w.heap.size w w' := by
  go_enter Try.func23, Try.ntmps23
  go_wp2_with fail
  refine (nil_fits _ _ _ _ _ _ _).mono ?_
  rintro e w1 ⟨rfl, hb1⟩
  go_wp2_with fail
  go_ret2
  exact ⟨rfl, (Below.alloc (Below.refl _ _) (Nat.le_refl _) _).trans (hb1.mono (by simp))⟩

set_option maxRecDepth 10000 in
theorem nil_Lift (A : Option Addr) (n c : Nat) (w : World) : Calls Try.prog 28 #[.pointer none, .slice A n c] w fun e w' => e = .returned (.tuple #[.slice none 0 0, .int .i64 9]) ∧ Below w.heap.size w w' := by
  go_enter Try.func28, Try.ntmps28
  go_wp2_with fail
  refine (nil_fits _ _ _ _ _ _ _).mono ?_
  rintro e w1 ⟨rfl, hb1⟩
  go_wp2_with fail
  go_ret2
  exact ⟨rfl, (Below.alloc (Below.refl _ _) (Nat.le_refl _) _).trans (hb1.mono (by simp))⟩

set_option maxRecDepth 10000 in
set_option maxHeartbeats 1000000 in
theorem nil_Dual (A B C : Option Addr) (n0 c0 n1 c1 n2 c2 : Nat) (w : World) : Calls Try.prog 22 #[.pointer none, .agg #[.slice A n0 c0, .slice B n1 c1, .slice C n2 c2]] w fun e w' => e = .returned (.tuple #[.agg #[.slice none 0 0, .slice none 0 0, .slice none 0 0], .int .i64 9]) ∧ Below w.heap.size w w' := by
  have hw : ∀ o1 o2 o3 o4, Below w.heap.size w ((((w.alloc o1).alloc o2).alloc o3).alloc o4) := fun o1 o2 o3 o4 => ((((Below.refl _ w).alloc (Nat.le_refl _) _).alloc (by simp) _).alloc (by simp; omega) _).alloc (by simp; omega) _
  go_enter Try.func22, Try.ntmps22
  go_wp2_with fail
  refine (nil_fits _ _ _ _ _ _ _).mono ?_
  rintro e w1 ⟨rfl, hb1⟩
  have hy1 : w1.heap[w.heap.size + 1]? = some (.cells #[.slice none 0 0, .slice none 0 0, .slice none 0 0] 43 (0, 0)) := blk_below (blk_alloc (blk_alloc (by have := blk_new (w.alloc (.cells #[.slice A n0 c0, .slice B n1 c1, .slice C n2 c2] 43)) (.cells #[.slice none 0 0, .slice none 0 0, .slice none 0 0] 43 (0, 0)); simpa using this) _) _) hb1
  have hb1 := (hw _ _ _ _).trans (hb1.mono (hw _ _ _ _).size)
  have hz0 := blk_cell hy1 0
  have hz1 := blk_cell hy1 1
  have hz2 := blk_cell hy1 2
  have hf := blk_frozen hy1
  go_wp2_with fail
  refine bodyPost_ret (results_cell_tmp rfl _ _ (w.heap.size + 1) 43 #[.slice none 0 0, .slice none 0 0, .slice none 0 0] (0, 0) _ rfl (set3_blk hy1 _ _ _) Try.underlying43 rfl (by kernel_rfl)) rfl ?_
  exact ⟨rfl, set3_below hb1 (by omega) _ _ _⟩

set_option maxRecDepth 10000 in
set_option maxHeartbeats 1000000 in
theorem nil_Cert (A B C D : Option Addr) (n0 c0 n1 c1 n2 c2 n3 c3 : Nat) (w : World) : Calls Try.prog 16 #[.pointer none, .agg #[.slice A n0 c0, .slice B n1 c1, .slice C n2 c2, .slice D n3 c3]] w fun e w' => e = .returned (.tuple #[.agg #[.slice none 0 0, .slice none 0 0, .slice none 0 0, .slice none 0 0], .int .i64 9]) ∧ Below w.heap.size w w' := by
  have hw : ∀ o1 o2 o3 o4, Below w.heap.size w ((((w.alloc o1).alloc o2).alloc o3).alloc o4) := fun o1 o2 o3 o4 => ((((Below.refl _ w).alloc (Nat.le_refl _) _).alloc (by simp) _).alloc (by simp; omega) _).alloc (by simp; omega) _
  go_enter Try.func16, Try.ntmps16
  go_wp2_with fail
  refine (nil_fits _ _ _ _ _ _ _).mono ?_
  rintro e w1 ⟨rfl, hb1⟩
  have hy1 : w1.heap[w.heap.size + 1]? = some (.cells #[.slice none 0 0, .slice none 0 0, .slice none 0 0, .slice none 0 0] 32 (0, 0)) := blk_below (blk_alloc (blk_alloc (by have := blk_new (w.alloc (.cells #[.slice A n0 c0, .slice B n1 c1, .slice C n2 c2, .slice D n3 c3] 32)) (.cells #[.slice none 0 0, .slice none 0 0, .slice none 0 0, .slice none 0 0] 32 (0, 0)); simpa using this) _) _) hb1
  have hb1 := (hw _ _ _ _).trans (hb1.mono (hw _ _ _ _).size)
  have hz0 := blk_cell hy1 0
  have hz1 := blk_cell hy1 1
  have hz2 := blk_cell hy1 2
  have hz3 := blk_cell hy1 3
  have hf := blk_frozen hy1
  go_wp2_with fail
  refine bodyPost_ret (results_cell_tmp rfl _ _ (w.heap.size + 1) 32 #[.slice none 0 0, .slice none 0 0, .slice none 0 0, .slice none 0 0] (0, 0) _ rfl (set4_blk hy1 _ _ _ _) Try.underlying32 rfl (by kernel_rfl)) rfl ?_
  exact ⟨rfl, set4_below hb1 (by omega) _ _ _ _⟩

set_option maxRecDepth 10000 in
set_option maxHeartbeats 2000000 in
theorem nil_Basis (F G A B C : Option Addr) (m0 d0 m1 d1 n0 c0 n1 c1 n2 c2 : Nat) (w : World) : Calls Try.prog 29 #[.pointer none, .agg #[.slice F m0 d0, .slice G m1 d1], .agg #[.slice A n0 c0, .slice B n1 c1, .slice C n2 c2]] w fun e w' => e = .returned (.tuple #[.agg #[.slice none 0 0, .slice none 0 0], .agg #[.slice none 0 0, .slice none 0 0, .slice none 0 0], .int .i64 9]) ∧ Below w.heap.size w w' := by
  have hw : ∀ o1 o2 o3 o4 o5 o6, Below w.heap.size w ((((((w.alloc o1).alloc o2).alloc o3).alloc o4).alloc o5).alloc o6) := fun o1 o2 o3 o4 o5 o6 => ((((((Below.refl _ w).alloc (Nat.le_refl _) _).alloc (by simp) _).alloc (by simp; omega) _).alloc (by simp; omega) _).alloc (by simp; omega) _).alloc (by simp; omega) _
  go_enter Try.func29, Try.ntmps29
  go_wp2_with fail
  refine (nil_fits _ _ _ _ _ _ _).mono ?_
  rintro e w1 ⟨rfl, hb1⟩
  have hx1 : w1.heap[w.heap.size + 1 + 1]? = some (.cells #[.slice none 0 0, .slice none 0 0] 59 (0, 0)) := blk_below (blk_alloc (blk_alloc (blk_alloc (by have := blk_new ((w.alloc (.cells #[.slice F m0 d0, .slice G m1 d1] 59)).alloc (.cells #[.slice A n0 c0, .slice B n1 c1, .slice C n2 c2] 43)) (.cells #[.slice none 0 0, .slice none 0 0] 59 (0, 0)); simpa using this) _) _) _) hb1
  have hy1 : w1.heap[w.heap.size + 1 + 1 + 1]? = some (.cells #[.slice none 0 0, .slice none 0 0, .slice none 0 0] 43 (0, 0)) := blk_below (blk_alloc (blk_alloc (by have := blk_new (((w.alloc (.cells #[.slice F m0 d0, .slice G m1 d1] 59)).alloc (.cells #[.slice A n0 c0, .slice B n1 c1, .slice C n2 c2] 43)).alloc (.cells #[.slice none 0 0, .slice none 0 0] 59)) (.cells #[.slice none 0 0, .slice none 0 0, .slice none 0 0] 43 (0, 0)); simpa using this) _) _) hb1
  have hb1 := (hw _ _ _ _ _ _).trans (hb1.mono (hw _ _ _ _ _ _).size)
  have hz0 := blk_cell hx1 0
  have hz1 := blk_cell hx1 1
  have hf := blk_frozen hx1
  have hy0 := blk_cell hy1 0
  have hy2 := blk_cell hy1 1
  have hy3 := blk_cell hy1 2
  have hg := blk_frozen hy1
  go_wp2_with fail
  have hx2 : (set3 (set2 w1 (w.heap.size + 1 + 1) (.slice none 0 0) (.slice none 0 0)) (w.heap.size + 1 + 1 + 1) (.slice none 0 0) (.slice none 0 0) (.slice none 0 0)).heap[w.heap.size + 1 + 1]? = some (.cells #[.slice none 0 0, .slice none 0 0] 59 (0, 0)) := blk_far (blk_far (blk_far (set2_blk hx1 _ _) (by simp) _) (by simp) _) (by simp) _
  have hy4 : (set3 (set2 w1 (w.heap.size + 1 + 1) (.slice none 0 0) (.slice none 0 0)) (w.heap.size + 1 + 1 + 1) (.slice none 0 0) (.slice none 0 0) (.slice none 0 0)).heap[w.heap.size + 1 + 1 + 1]? = some (.cells #[.slice none 0 0, .slice none 0 0, .slice none 0 0] 43 (0, 0)) := set3_blk (blk_far (blk_far hy1 (by simp) _) (by simp) _) _ _ _
  refine bodyPost_ret (results_cell_cell_tmp rfl _ _ (w.heap.size + 1 + 1) (w.heap.size + 1 + 1 + 1) 59 43 #[.slice none 0 0, .slice none 0 0] #[.slice none 0 0, .slice none 0 0, .slice none 0 0] (0, 0) (0, 0) _ _ rfl hx2 Try.underlying59 rfl (by kernel_rfl) rfl hy4 Try.underlying43 rfl (by kernel_rfl)) rfl ?_
  exact ⟨rfl, set3_below (set2_below hb1 (by omega) _ _) (by omega) _ _ _⟩
end Go.Proofs.Ytajahomfmcbmlaa.T
