/-
The exported functions on limbs, at numbers in form: sum, difference, product, order.
-/
import Derived.Test.YtajahomfmcbmlaaNat3
import Derived.WalkSmall
namespace Go.Proofs.Ytajahomfmcbmlaa.T
open Go.RowKit Go.Proofs.YtajahomfmcbmlaaW.PrintWords Go.Proofs.YtajahomfmcbmlaaW.PrintLast Go.Proofs.YtajahomfmcbmlaaW.PrintMore
set_option linter.unusedVariables false

/-- The limbs of n. -/
abbrev Lm (n : Nat) : List Int := lm B64 n
theorem inL (n : Nat) : InB B64 (Lm n) := inB_lm two_le_B64 n
theorem formL (n : Nat) : FormL (Lm n) := formL_lm two_le_B64 n
theorem valL (n : Nat) : val B64 (Lm n) = n := val_lm two_le_B64 n
/-- A list that is read, in a world behind. -/
theorem Rl.below {w w1 : World} {A : Option Addr} {l : List Int} (h : Rl w A l) (hb : Below w.heap.size w w1) : Rl w1 A l := Kd.C_below h hb

theorem Ol.conv {w1 : World} {base B x y : Nat} {v : Value} (h : Ol w1 B v (Lm x)) (hB : base ≤ B) (e : x = y) : Ol w1 base v (Lm y) := by
  subst e; exact Kd.R_lower h hB

theorem two_forms {w : World} {g : Nat} {A B : Option Addr} {c d : Nat} {l m : List Int} (fl : FormL l) (fm : FormL m) (h0 : w.cell? ⟨g, 0, none⟩ = some (.slice A l.length c)) (h1 : w.cell? ⟨g, 1, none⟩ = some (.slice B m.length d)) (hA : Rl w A l) (hB : Rl w B m) :
    ∀ i, i < 2 → FormL ([l, m].getD i []) ∧ ∃ A c, w.cell? ⟨g, i, none⟩ = some (.slice A ([l, m].getD i []).length c) ∧ Rl w A ([l, m].getD i []) := by
  intro i hi
  have : i = 0 ∨ i = 1 := by omega
  rcases this with rfl | rfl
  · exact ⟨fl, A, c, h0, hA⟩
  · exact ⟨fm, B, d, h1, hB⟩

theorem nat_forms2 {A B : Option Addr} {c d : Nat} {l m : List Int} {w : World} (t : TypeId) (fl : FormL l) (fm : FormL m) (hA : Rl w A l) (hB : Rl w B m) :
    Calls Try.prog 125 #[.slice (some ⟨w.heap.size, 0, none⟩) 2 2] (w.alloc (.cells #[.slice A l.length c, .slice B m.length d] t)) fun e w' => e = .returned (.int .i64 0) ∧ (w.alloc (.cells #[.slice A l.length c, .slice B m.length d] t)) = w' :=
  nat_forms _ _ _ (fun i => [l, m].getD i []) _ (by omega) (two_forms fl fm (cell_two_new w _ _ t 0 _ rfl) (cell_two_new w _ _ t 1 _ rfl) (hA.below (Below.alloc (Below.refl _ _) (Nat.le_refl _) _)) (hB.below (Below.alloc (Below.refl _ _) (Nat.le_refl _) _)))

set_option maxRecDepth 10000 in
set_option maxHeartbeats 1000000 in
theorem nat_Add (A B : Option Addr) (c d : Nat) (a b : Nat) (w : World) (ha : (Lm a).length ≤ 274877906944) (hb : (Lm b).length ≤ 274877906944) (hA : Rl w A (Lm a)) (hB : Rl w B (Lm b)) :
    Calls Try.prog 151 #[.slice A (Lm a).length c, .slice B (Lm b).length d] w fun e w' => ∃ v, e = .returned (.tuple #[v, .int .i64 0]) ∧ Ol w' w.heap.size v (Lm (a + b)) ∧ Below w.heap.size w w' := by
  have hw : Below w.heap.size w (w.alloc (.cells #[.slice A (Lm a).length c, .slice B (Lm b).length d] 51)) := Below.alloc (Below.refl _ _) (Nat.le_refl _) _
  go_enter Try.func151, Try.ntmps151
  go_wp2_with (first | (go_at_call 125; refine (nat_forms2 _ (formL a) (formL b) hA hB).mono ?_; rintro e w' ⟨rfl, rfl⟩) | (go_at_call 158; refine (nat_add _ _ _ _ _ _ _ (inL _) (inL _) (by omega) (by omega) (by first | exact hA.below hw | exact hB.below hw) (by first | exact hA.below hw | exact hB.below hw)).mono ?_; rintro e w1 ⟨v, rfl, hv, h1⟩))
  all_goals (go_ret2; exact ⟨v, rfl, hv.conv (by simp) (by simp only [valL]; omega), hw.trans (h1.mono (by simp))⟩)

set_option maxRecDepth 10000 in
set_option maxHeartbeats 1000000 in
theorem nat_Mul (A B : Option Addr) (c d : Nat) (a b : Nat) (w : World) (ha : (Lm a).length ≤ 274877906944) (hb : (Lm b).length ≤ 274877906944) (hA : Rl w A (Lm a)) (hB : Rl w B (Lm b)) :
    Calls Try.prog 159 #[.slice A (Lm a).length c, .slice B (Lm b).length d] w fun e w' => ∃ v, e = .returned (.tuple #[v, .int .i64 0]) ∧ Ol w' w.heap.size v (Lm (a * b)) ∧ Below w.heap.size w w' := by
  have hw : Below w.heap.size w (w.alloc (.cells #[.slice A (Lm a).length c, .slice B (Lm b).length d] 51)) := Below.alloc (Below.refl _ _) (Nat.le_refl _) _
  go_enter Try.func159, Try.ntmps159
  go_wp2_with (first | (go_at_call 125; refine (nat_forms2 _ (formL a) (formL b) hA hB).mono ?_; rintro e w' ⟨rfl, rfl⟩) | (go_at_call 148; refine (nat_mul _ _ _ _ _ _ _ (inL _) (inL _) (by omega) (hA.below hw) (hB.below hw)).mono ?_; rintro e w1 ⟨v, rfl, hv, h1⟩))
  go_ret2
  exact ⟨v, rfl, hv.conv (by simp) (by simp only [valL, ← Int.natCast_mul, Int.toNat_natCast]), hw.trans (h1.mono (by simp))⟩

theorem len_le_of_le {a b : Nat} (h : b ≤ a) : (Lm b).length ≤ (Lm a).length := lm_len_le two_le_B64 _ _ (Nat.lt_of_le_of_lt h (lm_len_lt two_le_B64 a))

set_option maxRecDepth 10000 in
set_option maxHeartbeats 1000000 in
theorem nat_Sub (A B : Option Addr) (c d : Nat) (a b : Nat) (w : World) (ha : (Lm a).length ≤ 274877906944) (hba : b ≤ a) (hA : Rl w A (Lm a)) (hB : Rl w B (Lm b)) :
    Calls Try.prog 153 #[.slice A (Lm a).length c, .slice B (Lm b).length d] w fun e w' => ∃ v, e = .returned (.tuple #[v, .int .i64 0]) ∧ Ol w' w.heap.size v (Lm (a - b)) ∧ Below w.heap.size w w' := by
  have hw : Below w.heap.size w (w.alloc (.cells #[.slice A (Lm a).length c, .slice B (Lm b).length d] 51)) := Below.alloc (Below.refl _ _) (Nat.le_refl _) _
  have hlt : decide (cmpI (val B64 (Lm a)) (val B64 (Lm b)) < 0) = false := by simp only [valL, cmpI, decide_eq_false_iff_not]; split <;> (try split) <;> omega
  have hl := len_le_of_le hba
  go_enter Try.func153, Try.ntmps153
  go_wp2_with (first | (go_at_call 125; refine (nat_forms2 _ (formL a) (formL b) hA hB).mono ?_; rintro e w' ⟨rfl, rfl⟩) | (go_at_call 137; refine (nat_cmp _ _ _ _ _ _ _ (inL _) (inL _) (formL _) (formL _) (hA.below hw) (hB.below hw)).mono ?_; rintro e w1 ⟨rfl, h1⟩; have h1' := hw.trans (h1.mono (by simp))) | (go_at_call 149; refine (nat_sub _ _ _ _ _ _ _ (inL _) (inL _) hl (by simp only [valL]; omega) (by omega) (hA.below h1') (hB.below h1')).mono ?_; rintro e w2 ⟨v, rfl, hv, h2⟩))
  go_ret2
  exact ⟨v, rfl, hv.conv h1'.size (by simp only [valL]; omega), h1'.trans (h2.mono h1'.size)⟩

set_option maxRecDepth 10000 in
set_option maxHeartbeats 1000000 in
theorem nat_Cmp (A B : Option Addr) (c d : Nat) (a b : Nat) (w : World) (hA : Rl w A (Lm a)) (hB : Rl w B (Lm b)) :
    Calls Try.prog 152 #[.slice A (Lm a).length c, .slice B (Lm b).length d] w fun e w' => e = .returned (.tuple #[.int .i64 (cmpI a b), .int .i64 0]) ∧ Below w.heap.size w w' := by
  have hw : Below w.heap.size w (w.alloc (.cells #[.slice A (Lm a).length c, .slice B (Lm b).length d] 51)) := Below.alloc (Below.refl _ _) (Nat.le_refl _) _
  go_enter Try.func152, Try.ntmps152
  go_wp2_with (first | (go_at_call 125; refine (nat_forms2 _ (formL a) (formL b) hA hB).mono ?_; rintro e w' ⟨rfl, rfl⟩) | (go_at_call 137; refine (nat_cmp _ _ _ _ _ _ _ (inL _) (inL _) (formL _) (formL _) (hA.below hw) (hB.below hw)).mono ?_; rintro e w1 ⟨rfl, h1⟩))
  go_ret2
  exact ⟨by simp only [valL]; rfl, hw.trans (h1.mono (by simp))⟩
end Go.Proofs.Ytajahomfmcbmlaa.T
