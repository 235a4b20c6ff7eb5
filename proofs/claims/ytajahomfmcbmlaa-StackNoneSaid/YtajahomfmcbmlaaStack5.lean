/-
Package stack: Primal without steps.
-/
import Derived.Test.YtajahomfmcbmlaaStack4
namespace Go.Proofs.Ytajahomfmcbmlaa.T
open Go.RowKit Go.Proofs.YtajahomfmcbmlaaW.PrintWords Go.Proofs.YtajahomfmcbmlaaW.PrintLast Go.Proofs.YtajahomfmcbmlaaW.PrintMore
set_option linter.unusedVariables false

theorem Rls.blk {w : World} {b : Nat} {cs : Array Value} {t : TypeId} {ls : List (List Rw)} (hb : w.heap[b]? = some (.cells cs t (0, 0))) (h : ∀ i, i < ls.length → ∃ B c, cs[i]? = some (.slice B (ls.getD i []).length c) ∧ Rq w B (ls.getD i [])) : Rls w (some ⟨b, 0, none⟩) ls := fun i hi => by
  obtain ⟨B, c, h1, h2⟩ := h i hi
  refine ⟨⟨b, 0, none⟩, B, c, rfl, ?_, h2⟩
  have : (⟨b, 0, none⟩ : Addr).add i = ⟨b, i, none⟩ := by unfold Addr.add; split <;> simp_all
  rw [this, blk_cell hb i, h1]

/-- One list that may be handed over. -/
structure Lst (w : World) (A : Option Addr) (xs : List Rw) : Prop where
  small : Small xs
  short : xs.length ≤ 1099511627776
  reads : Rq w A xs
theorem Lst.below {w w1 : World} {A : Option Addr} {xs : List Rw} (h : Lst w A xs) (hb : Below w.heap.size w w1) : Lst w1 A xs := ⟨h.small, h.short, h.reads.below hb⟩

theorem Fit.one {w : World} {b : Nat} {A : Option Addr} {xs : List Rw} {c : Nat} {t : TypeId} (h : Lst w A xs) (hb : w.heap[b]? = some (.cells #[.slice A xs.length c] t (0, 0))) : Fit w (some ⟨b, 0, none⟩) 1 [xs] :=
  ⟨rfl, by decide, fun l hl => by rw [List.mem_singleton.1 hl]; exact h.small, fun l hl => by rw [List.mem_singleton.1 hl]; exact h.short, Rls.blk hb fun i hi => by
    obtain rfl : i = 0 := by simpa using hi
    exact ⟨A, c, rfl, h.reads⟩⟩
theorem Fit.nil (w : World) : Fit w none 0 [] := ⟨rfl, by decide, fun l hl => by simp at hl, fun l hl => by simp at hl, Rls.nil w⟩

set_option maxRecDepth 10000 in
set_option maxHeartbeats 1000000 in
theorem stack_Primal (g : Nat) (x y : Int) (A : Option Addr) (n c : Nat) (xs : List Rw) (w : World) (hs : Stk w g x y) (hn : n = xs.length) (hL : Lst w A xs) :
    Calls Try.prog 23 #[.pointer (some ⟨g, 0, none⟩), .slice A n c] w fun e w' => Below w.heap.size w w' ∧
      (fitsE [xs] [] x y = 0 → ∃ v, e = .returned (.tuple #[v, .int .i64 0]) ∧ Oq w' w.heap.size v xs) ∧
      (fitsE [xs] [] x y ≠ 0 → e = .returned (.tuple #[.slice none 0 0, .int .i64 (fitsE [xs] [] x y)])) := by
  subst hn
  have HL := Lib.hid hL
  have HS := Lib.hid hs
  clear hL hs
  obtain ⟨E, hE⟩ : ∃ E, fitsE [xs] [] x y = E := ⟨_, rfl⟩
  have hw : ∀ o, Below w.heap.size w (w.alloc o) := fun o => Below.alloc (Below.refl _ _) (Nat.le_refl _) _
  rw [hE]
  have HE := Lib.hid hE
  clear hE
  by_cases h0 : E = 0
  · go_enter Try.func23, Try.ntmps23
    go_wp2_with fail
    refine (stack_fits g x y _ _ _ _ _ _ [xs] [] _ (HS.out.below (hw _)) (Fit.one (HL.out.below (hw _)) (blk_new w _)) (Fit.nil _)).mono ?_
    rintro e w1 ⟨rfl, hb1⟩
    rw [HE.out, h0]
    have hb1 := (hw _).trans (hb1.mono (hw _).size)
    go_wp2_with fail
    refine (back_list g x y A _ c _ _ _ _ (HS.out.below hb1)).mono ?_
    rintro e w2 ⟨rfl, hb2⟩
    have hb2 := hb1.trans (hb2.mono hb1.size)
    go_wp2_with fail
    refine (calc_Copies A _ c xs _ rfl HL.out.small HL.out.short (HL.out.reads.below hb2)).mono ?_
    rintro e w3 ⟨v, rfl, hv, hb3⟩
    go_wp2_with fail
    go_ret2
    exact ⟨hb2.trans (hb3.mono hb2.size), fun _ => ⟨_, rfl, Kd.R_lower hv hb2.size⟩, fun h => absurd h0 h⟩
  · have h1 : (E != 0) = true := by simpa using h0
    have H0 := Lib.hid h0
    clear h0
    go_enter Try.func23, Try.ntmps23
    go_wp2_with fail
    refine (stack_fits g x y _ _ _ _ _ _ [xs] [] _ (HS.out.below (hw _)) (Fit.one (HL.out.below (hw _)) (blk_new w _)) (Fit.nil _)).mono ?_
    rintro e w1 ⟨rfl, hb1⟩
    rw [HE.out]
    have hb1 := (hw _).trans (hb1.mono (hw _).size)
    go_wp2_with fail
    go_ret2
    exact ⟨hb1, fun h => absurd h H0.out, fun _ => rfl⟩
end Go.Proofs.Ytajahomfmcbmlaa.T
