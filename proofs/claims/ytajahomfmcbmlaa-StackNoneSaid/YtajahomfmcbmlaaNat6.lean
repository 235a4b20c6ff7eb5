/-
Copies of limbs; one step of a long division.
-/
import Derived.Test.YtajahomfmcbmlaaNat5
import Derived.WalkSpells
namespace Go.Proofs.Ytajahomfmcbmlaa.T
open Go.RowKit Go.Proofs.YtajahomfmcbmlaaW.PrintWords Go.Proofs.YtajahomfmcbmlaaW.PrintLast Go.Proofs.YtajahomfmcbmlaaW.PrintMore
set_option linter.unusedVariables false

set_option maxRecDepth 10000 in
set_option maxHeartbeats 1000000 in
theorem clone_limbs (A : Option Addr) (n c : Nat) (l : List Int) (w : World) (hn : n = l.length) (hN : l.length ≤ 1099511627776) (hA : Rl w A l) :
    Calls Try.prog 127 #[.slice A n c] w fun e w' => ∃ v, e = .returned v ∧ Ol w' w.heap.size v l ∧ Below w.heap.size w w' := by
  subst hn
  have h1 := fun W a n c => Lib.run_eql_slice_nil (P := Try.prog) W 51 50 a n c 0 0 Try.underlying51
  cases A with
  | none =>
    have h0 : l = [] := by
      cases l with
      | nil => rfl
      | cons x l => obtain ⟨ad, h, _⟩ := hA.2.2 (by simp); cases h
    subst h0
    go_enter Try.func127, Try.ntmps127
    go_wp2
    go_ret
    exact ⟨_, rfl, Kd.R_nil _ _ _ _ _, Below.refl _ _⟩
  | some ad =>
    go_enter Try.func127, Try.ntmps127
    go_wp2_with (first | ((with_reducible refine gate_dst (N := 5) rfl ?_); refine wp_lit w.heap.size rfl rfl [] ?hr (Below.refl _ _) (Nat.le_refl _) (by simp) ?_; (case hr => go_simp); intro v1 w1 hO hb) | (at_builtin; refine wp_append w.heap.size rfl (.tmp 5) (.tmp 6) rfl v1 [] l _ _ _ rfl rfl hO (hA.below hb) hb hb.size (by simp; omega) ?_; intro v2 w2 hO2 hb2))
    go_ret
    exact ⟨_, rfl, hO2, hb2⟩
end Go.Proofs.Ytajahomfmcbmlaa.T
