/-
Package stack: Cert and Dual without steps.
-/
import Derived.Test.YtajahomfmcbmlaaStack6
namespace Go.Proofs.Ytajahomfmcbmlaa.T
open Go.RowKit Go.Proofs.YtajahomfmcbmlaaW.PrintWords Go.Proofs.YtajahomfmcbmlaaW.PrintLast Go.Proofs.YtajahomfmcbmlaaW.PrintMore
set_option linter.unusedVariables false

theorem results_cell_tmp {P : Program} {fn : Func} {p q : Tmp} {ty : TypeId} (h : fn.results = #[.cell p ty, .tmp q]) (tmps : Array Value) (w : World) (g : Nat) (t : TypeId) (cs : Array Value) (fr : Nat × Nat) (d : TypeDesc)
    (hp : tmps.getD p undef = .pointer (some ⟨g, 0, none⟩)) (hg : w.heap[g]? = some (.cells cs t fr))
    (hu : P.underlying ty = some d) (hd : (match d with | .struct _ | .array _ _ => true | _ => false) = true) (hi : (P.info? ty).map (·.size) = some cs.size) :
    (results fn tmps).run P w = .ok (.tuple #[.agg cs, tmps.getD q undef]) w := by
  have hp' : tmps[p]?.getD undef = .pointer (some ⟨g, 0, none⟩) := by simpa using hp
  simp [results, h, hp', asAddr, run_loadVar_row w g t ty cs fr d hg hu hd hi, Sem.run_bind, Result.andThen]

theorem Fit.two {w : World} {b : Nat} {A B : Option Addr} {xs ys : List Rw} {n m c d : Nat} {t : TypeId} (h : Lst w A xs) (k : Lst w B ys) (en : n = xs.length) (em : m = ys.length) (hb : w.heap[b]? = some (.cells #[.slice A n c, .slice B m d] t (0, 0))) : Fit w (some ⟨b, 0, none⟩) 2 [xs, ys] := by
  subst en em
  refine ⟨rfl, by decide, fun l hl => ?_, fun l hl => ?_, Rls.blk hb fun i hi => ?_⟩
  · rcases List.mem_cons.1 hl with rfl | hl
    · exact h.small
    · rw [List.mem_singleton.1 hl]; exact k.small
  · rcases List.mem_cons.1 hl with rfl | hl
    · exact h.short
    · rw [List.mem_singleton.1 hl]; exact k.short
  · match i, hi with
    | 0, _ => exact ⟨A, c, rfl, h.reads⟩
    | 1, _ => exact ⟨B, d, rfl, k.reads⟩
theorem Fit.one' {w : World} {b : Nat} {A : Option Addr} {xs : List Rw} {n c : Nat} {t : TypeId} (h : Lst w A xs) (en : n = xs.length) (hb : w.heap[b]? = some (.cells #[.slice A n c] t (0, 0))) : Fit w (some ⟨b, 0, none⟩) 1 [xs] := by
  subst en; exact Fit.one h hb

set_option maxRecDepth 10000 in
set_option maxHeartbeats 4000000 in
theorem stack_Dual (g : Nat) (x y : Int) (A B C : Option Addr) (n0 c0 n1 c1 n2 c2 : Nat) (xs0 xs1 xs2 : List Rw) (w : World) (hs : Stk w g x y) (h0 : Lst w A xs0) (e0 : n0 = xs0.length) (h1 : Lst w B xs1) (e1 : n1 = xs1.length) (h2 : Lst w C xs2) (e2 : n2 = xs2.length) :
    Calls Try.prog 22 #[.pointer (some ⟨g, 0, none⟩), .agg #[.slice A n0 c0, .slice B n1 c1, .slice C n2 c2]] w fun e w' => Below w.heap.size w w' ∧
      (fitsE [xs0, xs2] [xs1] x y = 0 → ∃ v0 v1 v2, e = .returned (.tuple #[.agg #[v0, v1, v2], .int .i64 0]) ∧ Oq w' w.heap.size v0 xs0 ∧ Oq w' w.heap.size v1 xs1 ∧ Oq w' w.heap.size v2 xs2) ∧
      (fitsE [xs0, xs2] [xs1] x y ≠ 0 → e = .returned (.tuple #[.agg #[.slice none 0 0, .slice none 0 0, .slice none 0 0], .int .i64 (fitsE [xs0, xs2] [xs1] x y)])) := by
  have HS := Lib.hid hs
  have E0 := Lib.hid e0
  have E1 := Lib.hid e1
  have E2 := Lib.hid e2
  clear hs e0 e1 e2
  obtain ⟨E, hE⟩ : ∃ E, fitsE [xs0, xs2] [xs1] x y = E := ⟨_, rfl⟩
  rw [hE]
  have HE := Lib.hid hE
  clear hE
  have hw : ∀ o1 o2 o3 o4, Below w.heap.size w ((((w.alloc o1).alloc o2).alloc o3).alloc o4) := fun o1 o2 o3 o4 => ((((Below.refl _ w).alloc (Nat.le_refl _) _).alloc (by simp) _).alloc (by simp; omega) _).alloc (by simp; omega) _
  go_enter Try.func22, Try.ntmps22
  go_wp2_with fail
  refine (stack_fits g x y _ _ _ _ _ _ [xs0, xs2] [xs1] _ (HS.out.below (hw _ _ _ _)) (Fit.two (h0.below (hw _ _ _ _)) (h2.below (hw _ _ _ _)) E0.out E2.out (blk_alloc (by have := blk_new ((w.alloc (.cells #[.slice A n0 c0, .slice B n1 c1, .slice C n2 c2] 43)).alloc (.cells #[.slice none 0 0, .slice none 0 0, .slice none 0 0] 43)) (.cells #[.slice A n0 c0, .slice C n2 c2] 30 (0, 0)); simpa using this) _)) (Fit.one' (h1.below (hw _ _ _ _)) E1.out (by have := blk_new (((w.alloc (.cells #[.slice A n0 c0, .slice B n1 c1, .slice C n2 c2] 43)).alloc (.cells #[.slice none 0 0, .slice none 0 0, .slice none 0 0] 43)).alloc (.cells #[.slice A n0 c0, .slice C n2 c2] 30)) (.cells #[.slice B n1 c1] 30 (0, 0)); simpa using this))).mono ?_
  rintro e w1 ⟨rfl, hb1⟩
  rw [HE.out]
  have hx1 : w1.heap[w.heap.size]? = some (.cells #[.slice A n0 c0, .slice B n1 c1, .slice C n2 c2] 43 (0, 0)) := blk_below (blk_alloc (blk_alloc (blk_alloc (blk_new w _) _) _) _) hb1
  have hy1 : w1.heap[w.heap.size + 1]? = some (.cells #[.slice none 0 0, .slice none 0 0, .slice none 0 0] 43 (0, 0)) := blk_below (blk_alloc (blk_alloc (by have := blk_new (w.alloc (.cells #[.slice A n0 c0, .slice B n1 c1, .slice C n2 c2] 43)) (.cells #[.slice none 0 0, .slice none 0 0, .slice none 0 0] 43 (0, 0)); simpa using this) _) _) hb1
  have hb1 := (hw _ _ _ _).trans (hb1.mono (hw _ _ _ _).size)
  have hs1 : w.heap.size + 1 < w1.heap.size := blk_lt hy1
  by_cases hE0 : E = 0
  · rw [hE0]
    have HE0 := Lib.hid hE0
    clear hE0
    have u0 := blk_cell hx1 0
    have u1 := blk_cell hx1 1
    have u2 := blk_cell hx1 2
    go_wp2_with fail
    refine (back_point g x y A B C _ _ _ _ _ _ _ _ _ _ (HS.out.below hb1)).mono ?_
    rintro e w2 ⟨rfl, hb2⟩
    have hb3 := hb1.trans (hb2.mono hb1.size)
    have hy2 := blk_below hy1 hb2
    go_wp2_with fail
    refine (stack_point A n0 c0 xs0 B n1 c1 xs1 C n2 c2 xs2 _ (h0.below hb3) E0.out (h1.below hb3) E1.out (h2.below hb3) E2.out).mono ?_
    rintro e w3 ⟨v0, v1, v2, rfl, hv0, hv1, hv2, hb4⟩
    obtain ⟨A0, d0, rfl⟩ := Kd.R_slice hv0
    obtain ⟨A1, d1, rfl⟩ := Kd.R_slice hv1
    obtain ⟨A2, d2, rfl⟩ := Kd.R_slice hv2
    have hb5 := hb3.trans (hb4.mono hb3.size)
    have hy3 := blk_below hy2 hb4
    have hs2 := hb2.size
    have hz0 := blk_cell hy3 0
    have hz1 := blk_cell hy3 1
    have hz2 := blk_cell hy3 2
    have hf := blk_frozen hy3
    go_wp2_with fail
    refine bodyPost_ret (results_cell_tmp rfl _ _ (w.heap.size + 1) 43 #[.slice A0 _ d0, .slice A1 _ d1, .slice A2 _ d2] (0, 0) _ rfl (set3_blk hy3 _ _ _) Try.underlying43 rfl (by kernel_rfl)) rfl ?_
    refine ⟨set3_below hb5 (by omega) _ _ _, fun _ => ⟨_, _, _, rfl, Oq.set3 hv0 (by omega) (by omega) _ _ _, Oq.set3 hv1 (by omega) (by omega) _ _ _, Oq.set3 hv2 (by omega) (by omega) _ _ _⟩, fun h => absurd HE0.out h⟩
  · have hE1 : (E != 0) = true := by simpa using hE0
    have HE0 := Lib.hid hE0
    clear hE0
    have hz0 := blk_cell hy1 0
    have hz1 := blk_cell hy1 1
    have hz2 := blk_cell hy1 2
    have hf := blk_frozen hy1
    go_wp2_with fail
    refine bodyPost_ret (results_cell_tmp rfl _ _ (w.heap.size + 1) 43 #[.slice none 0 0, .slice none 0 0, .slice none 0 0] (0, 0) _ rfl (set3_blk hy1 _ _ _) Try.underlying43 rfl (by kernel_rfl)) rfl ?_
    exact ⟨set3_below hb1 (by omega) _ _ _, fun h => absurd h HE0.out, fun _ => rfl⟩
end Go.Proofs.Ytajahomfmcbmlaa.T
