/-
nat.DivMod and nat.Gcd.
-/
import Derived.Test.YtajahomfmcbmlaaNatA
import Derived.OwnWalk
namespace Go.Proofs.Ytajahomfmcbmlaa.T
open Go.RowKit Go.Proofs.YtajahomfmcbmlaaW.PrintWords Go.Proofs.YtajahomfmcbmlaaW.PrintLast Go.Proofs.YtajahomfmcbmlaaW.PrintMore
set_option linter.unusedVariables false

/-- The value is the limbs of n. -/
def Lv (w : World) (v : Value) (n : Nat) : Prop := ∃ A c, v = .slice A (Lm n).length c ∧ Rl w A (Lm n)
theorem Lv.uniq {w : World} {v : Value} {m n : Nat} (h : Lv w v m) (k : Lv w v n) : m = n := by
  obtain ⟨A, c, rfl, h⟩ := h
  obtain ⟨B, d, e, k⟩ := k
  injection e with e1 e2 e3
  subst e1
  have : Lm m = Lm n := by
    refine List.ext_getElem e2 fun i h1 h2 => ?_
    obtain ⟨a1, p1, p2⟩ := Rl.at h i h1
    obtain ⟨a2, q1, q2⟩ := Rl.at k i h2
    rw [p1] at q1
    injection q1 with q1
    subst q1
    rw [p2] at q2
    simpa [List.getD_eq_getElem?_getD, h1, h2] using q2
  have := congrArg (val B64) this
  rw [valL, valL] at this
  omega
noncomputable def lvOf (w : World) (v : Value) : Nat := Classical.epsilon (Lv w v)
theorem Lv.of {w : World} {v : Value} {n : Nat} (h : Lv w v n) : lvOf w v = n := (Classical.epsilon_spec (p := Lv w v) ⟨n, h⟩).uniq h

set_option maxRecDepth 10000 in
set_option maxHeartbeats 1000000 in
theorem nat_DivMod (A B : Option Addr) (c d : Nat) (a b : Nat) (w : World) (ha : (Lm a).length ≤ 137438953472) (hb : b ≠ 0) (hA : Rl w A (Lm a)) (hB : Rl w B (Lm b)) :
    Calls Try.prog 131 #[.slice A (Lm a).length c, .slice B (Lm b).length d] w fun e w' => ∃ v1 v2, e = .returned (.tuple #[v1, v2, .int .i64 0]) ∧ Ol w' w.heap.size v1 (Lm (a / b)) ∧ Ol w' w.heap.size v2 (Lm (a % b)) ∧ Below w.heap.size w w' := by
  have hw : Below w.heap.size w (w.alloc (.cells #[.slice A (Lm a).length c, .slice B (Lm b).length d] 51)) := Below.alloc (Below.refl _ _) (Nat.le_refl _) _
  have hl : ((Lm b).length : Int) ≠ 0 := by
    have h := lm_len_lt two_le_B64 b
    intro e
    rw [show (lm B64 b).length = 0 from by exact_mod_cast e, Nat.pow_zero] at h
    omega
  go_enter Try.func131, Try.ntmps131
  go_wp2_with (first | (go_at_call 125; refine (nat_forms2 _ (formL a) (formL b) hA hB).mono ?_; rintro e w' ⟨rfl, rfl⟩) | (go_at_call 126; refine (nat_divide _ _ _ _ _ _ a b _ rfl rfl hb ha (hA.below hw) (hB.below hw)).mono ?_; rintro e w1 ⟨v1, v2, rfl, hv1, hv2, h1⟩))
  go_ret3
  exact ⟨v1, v2, rfl, hv1.conv (by simp) rfl, hv2.conv (by simp) rfl, hw.trans (h1.mono (by simp))⟩

set_option maxRecDepth 10000 in
set_option maxHeartbeats 1000000 in
theorem nat_Gcd (A B : Option Addr) (c d : Nat) (a b : Nat) (w : World) (ha : (Lm a).length ≤ 137438953472) (hb : (Lm b).length ≤ 137438953472) (hA : Rl w A (Lm a)) (hB : Rl w B (Lm b)) :
    Calls Try.prog 114 #[.slice A (Lm a).length c, .slice B (Lm b).length d] w fun e w' => ∃ v, e = .returned (.tuple #[v, .int .i64 0]) ∧ Ol w' w.heap.size v (Lm (Nat.gcd a b)) ∧ Below w.heap.size w w' := by
  have hw : Below w.heap.size w (w.alloc (.cells #[.slice A (Lm a).length c, .slice B (Lm b).length d] 51)) := Below.alloc (Below.refl _ _) (Nat.le_refl _) _
  go_enter Try.func114, Try.ntmps114
  go_wp2_with (first | (go_at_call 125; refine (nat_forms2 _ (formL a) (formL b) hA hB).mono ?_; rintro e w' ⟨rfl, rfl⟩))
  have hA1 := hA.below hw
  have hB1 := hB.below hw
  go_loopw [0, 1] (fun t0 t1 wr => ∃ x y A c B d, t0 = .slice A (Lm x).length c ∧ t1 = .slice B (Lm y).length d ∧ Rl wr A (Lm x) ∧ Rl wr B (Lm y) ∧ (Lm x).length ≤ 137438953472 ∧ (Lm y).length ≤ 137438953472 ∧ Hid (Nat.gcd x y = Nat.gcd a b) ∧ Below w.heap.size w wr) (fun t0 t1 wr => lvOf wr t1)
  case atStart => exact ⟨a, b, A, c, B, d, rfl, rfl, hA1, hB1, ha, hb, rfl, hw⟩
  case round =>
    obtain ⟨x, y, A, c, B, d, rfl, rfl, hX, hY, hx, hy, hg, hB⟩ := hrel
    by_cases h0 : 0 < (Lm y).length
    · have hy0 : y ≠ 0 := fun e => by subst e; rw [Lm, lm_zero] at h0; simp at h0
      have HY0 := Lib.hid hy0
      clear hy0
      go_wp2_with fail
      refine (nat_divide _ _ _ _ _ _ x y _ rfl rfl HY0.out hx hX hY).mono ?_
      rintro e w1 ⟨v1, v2, rfl, hv1, hv2, h1⟩
      obtain ⟨A2, c2, rfl⟩ := Kd.R_slice hv2
      go_wp2_with fail
      have hY1 := hY.below h1
      have hR1 : Rl w1 A2 (Lm (x % y)) := (Kd.R_reads' hv2).2.2
      have hlt := Nat.mod_lt x (Nat.pos_of_ne_zero HY0.out)
      refine ⟨⟨y, x % y, _, _, _, _, rfl, rfl, hY1, hR1, hy, Nat.le_trans (len_le_of_le (Nat.le_of_lt hlt)) hy, ?_, hB.trans (h1.mono hB.size)⟩, ?_⟩
      · show _ = _
        rw [← hg.out, Nat.gcd_comm y, ← Nat.gcd_rec, Nat.gcd_comm]
      · rw [Lv.of ⟨_, _, rfl, hR1⟩, Lv.of ⟨_, _, rfl, hY⟩]; exact hlt
    · have hy0 : y = 0 := by
        have h := lm_len_lt two_le_B64 y
        rw [show (lm B64 y).length = 0 from by show (Lm y).length = 0; omega, Nat.pow_zero] at h
        omega
      subst hy0
      rw [Nat.gcd_zero_right] at hg
      go_wp2_with fail
      refine (clone_limbs _ _ _ (Lm x) _ rfl (by omega) hX).mono ?_
      rintro e w1 ⟨v, rfl, hv, h1⟩
      go_wp2_with fail
      go_ret2
      exact ⟨v, rfl, by rw [← hg.out]; exact Kd.R_lower hv hB.size, hB.trans (h1.mono hB.size)⟩
end Go.Proofs.Ytajahomfmcbmlaa.T
