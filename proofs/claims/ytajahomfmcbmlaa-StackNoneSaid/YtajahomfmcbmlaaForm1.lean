/-
rat.Form.
-/
import Derived.Test.YtajahomfmcbmlaaRats
import Derived.Test.YtajahomfmcbmlaaNatB
namespace Go.Proofs.Ytajahomfmcbmlaa.T
open Go.RowKit Go.Proofs.YtajahomfmcbmlaaW.PrintWords Go.Proofs.YtajahomfmcbmlaaW.PrintLast Go.Proofs.YtajahomfmcbmlaaW.PrintMore
set_option linter.unusedVariables false

set_option maxRecDepth 10000 in
set_option maxHeartbeats 1000000 in
theorem rat_one (A : Option Addr) (n c : Nat) (l : List Int) (w : World) (hn : n = l.length) (hA : Rl w A l) :
    Calls Try.prog 113 #[.slice A n c] w fun e w' => e = .returned (.bool (decide (l = [1]))) ∧ w = w' := by
  have hl := hA.len
  by_cases h1 : n = 1
  · obtain ⟨x, rfl⟩ : ∃ x, l = [x] := List.length_eq_one_iff.1 (by omega)
    obtain ⟨ad, rfl, hc⟩ := Rl.at hA 0 (by simp)
    have hc' : w.cell? ad = some (.int .u64 x) := by simpa [Addr.add] using hc
    rw [show decide ([x] = [1]) = decide (x = 1) from by simp]
    subst h1
    clear hn hc
    go_enter Try.func113, Try.ntmps113
    go_wp2
    go_ret
    exact ⟨ret_bool (by by_cases hx : x = 1 <;> simp [hx]), rfl⟩
  · have h2 : ((n : Int) == 1) = false := by simp; omega
    rw [show decide (l = [1]) = false from by simp; intro e; subst e; simp at hn; omega]
    clear hn h1
    go_enter Try.func113, Try.ntmps113
    go_wp2
    go_ret
    exact ⟨rfl, rfl⟩

/-- Is a number in lowest terms? -/
def formR (x : Rw) : Bool := formB x.2.1 && formB x.2.2 && x.2.2.length != 0 && (if x.2.1.length = 0 then !x.1 && decide (x.2.2 = [1]) else Nat.gcd (val B64 x.2.1).toNat (val B64 x.2.2).toNat == 1)

theorem Lm_one (g : Nat) : decide (Lm g = [1]) = (g == 1) := by
  have e : Lm 1 = [1] := by rw [Lm, lm_succ two_le_B64 (by decide), show 1 % B64 = 1 from rfl, show 1 / B64 = 0 from rfl, lm_zero]; rfl
  by_cases h : g = 1
  · subst h; simp [e]
  · have : Lm g ≠ [1] := fun h2 => h (lm_inj two_le_B64 (h2.trans e.symm))
    simp [this, h]

theorem nat_Gcd' (A B : Option Addr) (c d : Nat) (l m : List Int) (a b : Nat) (w : World) (hl : l = Lm a) (hm : m = Lm b) (ha : l.length ≤ 137438953472) (hb : m.length ≤ 137438953472) (hA : Rl w A l) (hB : Rl w B m) :
    Calls Try.prog 114 #[.slice A l.length c, .slice B m.length d] w fun e w' => ∃ v, e = .returned (.tuple #[v, .int .i64 0]) ∧ Ol w' w.heap.size v (Lm (Nat.gcd a b)) ∧ Below w.heap.size w w' := by
  subst hl hm
  exact nat_Gcd A B c d a b w ha hb hA hB

set_option maxRecDepth 10000 in
set_option maxHeartbeats 1000000 in
theorem rat_Form (s : Bool) (A B : Option Addr) (n k a b : Nat) (l m : List Int) (w : World) (hn : n = l.length) (hk : k = m.length) (hS : Sm (s, l, m)) (h1 : Rl w A l) (h2 : Rl w B m) :
    Calls Try.prog 81 #[.agg #[.bool s, .slice A n a, .slice B k b]] w fun e w' => e = .returned (.bool (formR (s, l, m))) ∧ Below w.heap.size w w' := by
  subst hn hk
  have hw : ∀ o1, Below w.heap.size w (w.alloc o1) := fun o1 => Below.alloc (Below.refl _ _) (Nat.le_refl _) _
  have HS := Lib.hid hS
  clear hS
  by_cases f1 : formB l = true
  · by_cases f2 : formB m = true
    · by_cases f3 : m.length = 0
      · rw [show formR (s, l, m) = false from by simp [formR, f3]]
        have g : ((m.length : Int) == 0) = true := by simp [f3]
        clear f3
        go_enter Try.func81, Try.ntmps81
        go_wp2_with fail
        refine (nat_Form _ _ l _ (h1.below (hw _))).mono ?_
        rintro e w1 ⟨rfl, rfl⟩
        rw [f1]
        go_wp2_with fail
        refine (nat_Form _ _ m _ (h2.below (hw _))).mono ?_
        rintro e w1 ⟨rfl, rfl⟩
        rw [f2]
        go_wp2_with fail
        go_ret
        exact ⟨rfl, hw _⟩
      · have g : ((m.length : Int) == 0) = false := by simp; simpa using f3
        by_cases f4 : l.length = 0
        · rw [show formR (s, l, m) = (!s && decide (m = [1])) from by simp only [formR, f1, f2, f4]; simp [f3]]
          have g2 : ((l.length : Int) == 0) = true := by simp [f4]
          clear f3 f4
          cases s
          · go_enter Try.func81, Try.ntmps81
            go_wp2_with fail
            refine (nat_Form _ _ l _ (h1.below (hw _))).mono ?_
            rintro e w1 ⟨rfl, rfl⟩
            rw [f1]
            go_wp2_with fail
            refine (nat_Form _ _ m _ (h2.below (hw _))).mono ?_
            rintro e w1 ⟨rfl, rfl⟩
            rw [f2]
            go_wp2_with fail
            refine (rat_one _ _ _ m _ rfl (h2.below (hw _))).mono ?_
            rintro e w1 ⟨rfl, rfl⟩
            go_wp2_with fail
            go_ret
            exact ⟨rfl, hw _⟩
          · go_enter Try.func81, Try.ntmps81
            go_wp2_with fail
            refine (nat_Form _ _ l _ (h1.below (hw _))).mono ?_
            rintro e w1 ⟨rfl, rfl⟩
            rw [f1]
            go_wp2_with fail
            refine (nat_Form _ _ m _ (h2.below (hw _))).mono ?_
            rintro e w1 ⟨rfl, rfl⟩
            rw [f2]
            go_wp2_with fail
            go_ret
            exact ⟨rfl, hw _⟩
        · have g2 : ((l.length : Int) == 0) = false := by simp; simpa using f4
          have HL : Hid (l = Lm (val B64 l).toNat) := (lm_val two_le_B64 HS.out.2.2.1 ((formB_iff _).1 f1)).symm
          have HM : Hid (m = Lm (val B64 m).toNat) := (lm_val two_le_B64 HS.out.2.2.2 ((formB_iff _).1 f2)).symm
          have e : formR (s, l, m) = decide (Lm (Nat.gcd (val B64 l).toNat (val B64 m).toNat) = [1]) := by
            simp only [formR, f1, f2]
            simp only [Lm_one]
            simp [f4, f3]
          rw [e]
          clear f3 f4 e
          go_enter Try.func81, Try.ntmps81
          go_wp2_with fail
          refine (nat_Form _ _ l _ (h1.below (hw _))).mono ?_
          rintro e w1 ⟨rfl, rfl⟩
          rw [f1]
          go_wp2_with fail
          refine (nat_Form _ _ m _ (h2.below (hw _))).mono ?_
          rintro e w1 ⟨rfl, rfl⟩
          rw [f2]
          go_wp2_with fail
          refine (nat_Gcd' _ _ _ _ l m (val B64 l).toNat (val B64 m).toNat _ HL.out HM.out HS.out.1 HS.out.2.1 (h1.below (hw _)) (h2.below (hw _))).mono ?_
          rintro e w1 ⟨v, rfl, hv, hb1⟩
          obtain ⟨A1, c1, rfl⟩ := Kd.R_slice hv
          go_wp2_with fail
          refine (rat_one _ _ _ _ _ rfl (Kd.R_reads' hv).2.2).mono ?_
          rintro e w2 ⟨rfl, rfl⟩
          go_wp2_with fail
          go_ret
          exact ⟨rfl, (hw _).trans (hb1.mono (hw _).size)⟩
    · rw [show formR (s, l, m) = false from by simp [formR, f2]]
      have f2' : formB m = false := by simpa using f2
      clear f2
      go_enter Try.func81, Try.ntmps81
      go_wp2_with fail
      refine (nat_Form _ _ l _ (h1.below (hw _))).mono ?_
      rintro e w1 ⟨rfl, rfl⟩
      rw [f1]
      go_wp2_with fail
      refine (nat_Form _ _ m _ (h2.below (hw _))).mono ?_
      rintro e w1 ⟨rfl, rfl⟩
      rw [f2']
      go_wp2_with fail
      go_ret
      exact ⟨rfl, hw _⟩
  · rw [show formR (s, l, m) = false from by simp [formR, f1]]
    have f1' : formB l = false := by simpa using f1
    clear f1
    go_enter Try.func81, Try.ntmps81
    go_wp2_with fail
    refine (nat_Form _ _ l _ (h1.below (hw _))).mono ?_
    rintro e w1 ⟨rfl, rfl⟩
    rw [f1']
    go_wp2_with fail
    go_ret
    exact ⟨rfl, hw _⟩
end Go.Proofs.Ytajahomfmcbmlaa.T
