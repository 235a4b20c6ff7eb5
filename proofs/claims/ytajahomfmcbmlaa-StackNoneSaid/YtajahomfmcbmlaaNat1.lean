/-
What the plain functions on limbs answer.
-/
import Derived.Test.YtajahomfmcbmlaaBase
namespace Go.Proofs.Ytajahomfmcbmlaa.T
open Go.RowKit Go.Proofs.YtajahomfmcbmlaaW.PrintWords Go.Proofs.YtajahomfmcbmlaaW.PrintLast Go.Proofs.YtajahomfmcbmlaaW.PrintMore
set_option linter.unusedVariables false

set_option maxHeartbeats 400000 in
theorem nat_low (A : Option Addr) (c : Nat) (l : List Int) (base : Nat) (w : World) (hb : InB B64 l) (hr : Ol w base (.slice A l.length c) l) :
    Calls Try.prog 139 #[.slice A l.length c] w fun e w' => ∃ v, e = .returned v ∧ Ol w base v (lm B64 (val B64 l).toNat) ∧ w = w' := by
  have hlen := Ol.len hr
  have hv : val B64 (l.take l.length) = val B64 l := by rw [List.take_length]
  go_enter Try.func139, Try.ntmps139
  go_wp2
  go_loop [0] (fun t => ∃ m : Nat, m ≤ l.length ∧ Hid (val B64 (l.take m) = val B64 l) ∧ t = .slice A m c) (fun t => match t with | .slice _ m _ => m | _ => 0)
  case atStart => exact ⟨_, Nat.le_refl _, hv, rfl⟩
  case round =>
    obtain ⟨m, hm, hvm, rfl⟩ := hrel
    clear hv
    by_cases h0 : m = 0
    · subst h0
      go_wp2
      go_ret
      have h := hvm.out
      simp only [List.take_zero, val_nil] at h
      exact ⟨_, rfl, by rw [← h]; simp only [Int.toNat_zero, lm_zero]; exact Kd.R_nil _ _ _ _ _, rfl⟩
    · have hm1 : 0 < m := by omega
      obtain ⟨_, hlc, hC⟩ := Kd.R_reads' hr
      obtain ⟨ad, rfl, hc⟩ := Rl.at hC (m - 1) (by omega)
      have hmc : (m : Int) - 1 ≤ (c : Int) := by omega
      have hmc' : 1 ≤ (m : Int) := by omega
      have HS : Hid (val B64 (l.take (m - 1 + 1)) = val B64 (l.take (m - 1)) + B64 ^ (m - 1) * l.getD (m - 1) 0) := val_take_succ _ l (m - 1) (by omega)
      go_wp2
      · have hz : (l[m - 1]?.getD 0 == 0) = true := by assumption
        refine ⟨⟨m - 1, by omega, ?_, rfl⟩, by simp; omega⟩
        have h2 := HS.out
        rw [show m - 1 + 1 = m from by omega, hvm.out, List.getD_eq_getElem?_getD, beq_iff_eq.1 hz] at h2
        exact Lib.hid (by omega)
      · have hz : (l[m - 1]?.getD 0 == 0) = false := by assumption
        go_ret
        refine ⟨_, rfl, ?_, rfl⟩
        rw [← lm_of_take two_le_B64 hb m hm hvm.out (.inr (by rw [List.getD_eq_getElem?_getD]; exact beq_eq_false_iff_ne.1 hz))]
        exact Kd.R_take hr hm

theorem nat_low' (A : Option Addr) (n c : Nat) (l : List Int) (base : Nat) (w : World) (hn : n = l.length) (hb : InB B64 l) (hr : Ol w base (.slice A n c) l) :
    Calls Try.prog 139 #[.slice A n c] w fun e w' => ∃ v, e = .returned v ∧ Ol w base v (lm B64 (val B64 l).toNat) ∧ w = w' := by
  subst hn; exact nat_low A c l base w hb hr

/-- Is the last limb not 0? -/
def formB (l : List Int) : Bool := l.length == 0 || l.getD (l.length - 1) 0 != 0
theorem formB_iff (l : List Int) : formB l = true ↔ FormL l := by
  unfold formB FormL
  simp [List.length_eq_zero_iff]

set_option maxHeartbeats 400000 in
theorem nat_Form (A : Option Addr) (c : Nat) (l : List Int) (w : World) (hr : Rl w A l) :
    Calls Try.prog 112 #[.slice A l.length c] w fun e w' => e = .returned (.bool (formB l)) ∧ w = w' := by
  have hlen := hr.len
  by_cases h : l.length = 0
  · have h2 : formB l = true := by simp [formB, h]
    have h1 : ((l.length : Int) == 0) = true := by simp [h]
    clear h
    rw [h2]; clear h2
    go_enter Try.func112, Try.ntmps112
    go_wp2
    go_ret
    exact ⟨rfl, rfl⟩
  · have h2 : formB l = (l.getD (l.length - 1) 0 != 0) := by simp [formB, h]
    obtain ⟨ad, rfl, hc⟩ := Rl.at hr (l.length - 1) (by omega)
    have h1 : ((l.length : Int) == 0) = false := by simp; simpa using h
    have h3 : 0 < l.length := by omega
    clear h
    rw [h2]; clear h2
    go_enter Try.func112, Try.ntmps112
    go_wp2
    go_ret
    exact ⟨by simp, rfl⟩

set_option maxHeartbeats 400000 in
/-- All lists in form: no error. -/
theorem nat_forms (g n c : Nat) (f : Nat → List Int) (w : World) (hn : n ≤ 8) (hf : ∀ i, i < n → FormL (f i) ∧ ∃ A c, w.cell? ⟨g, i, none⟩ = some (.slice A (f i).length c) ∧ Rl w A (f i)) :
    Calls Try.prog 125 #[.slice (some ⟨g, 0, none⟩) n c] w fun e w' => e = .returned (.int .i64 0) ∧ w = w' := by
  have HF := Lib.hid hf
  clear hf
  go_enter Try.func125, Try.ntmps125
  go_wp2
  go_loop [7] (fun t => ∃ k : Nat, k ≤ n ∧ t = .int .i64 k) (fun t => n - (intOf t).toNat)
  case atStart => exact ⟨0, Nat.zero_le _, rfl⟩
  case round =>
    obtain ⟨k, hk, rfl⟩ := hrel
    by_cases hlt : k < n
    · obtain ⟨hfk, A, cA, hc, hR⟩ := HF.out k hlt
      have hB : formB (f k) = true := (formB_iff _).2 hfk
      go_wp2_with (go_at_call 112; refine (nat_Form _ _ _ _ hR).mono ?_; rintro e w' ⟨rfl, rfl⟩)
      go_round
      case rel => exact ⟨k + 1, by omega, by go_num⟩
      case measure => simp [intOf]; omega
    · go_wp2
      go_ret
      exact ⟨rfl, rfl⟩

def cmpI (x y : Int) : Int := if x < y then -1 else if x = y then 0 else 1

theorem cmp_step {B : Int} (hB : 1 ≤ B) {l m : List Int} (hl : InB B l) (hm : InB B m) (he : l.length = m.length) (k : Nat) (hk : k < l.length) (hd : l.drop (l.length - k) = m.drop (l.length - k)) :
    (l.getD (l.length - 1 - k) 0 < m.getD (l.length - 1 - k) 0 → cmpI (val B l) (val B m) = -1) ∧
    (l.getD (l.length - 1 - k) 0 ≠ m.getD (l.length - 1 - k) 0 → ¬ l.getD (l.length - 1 - k) 0 < m.getD (l.length - 1 - k) 0 → cmpI (val B l) (val B m) = 1) ∧
    (l.getD (l.length - 1 - k) 0 = m.getD (l.length - 1 - k) 0 → l.drop (l.length - (k + 1)) = m.drop (l.length - (k + 1))) := by
  have e : l.length - k = l.length - 1 - k + 1 := by omega
  rw [e] at hd
  refine ⟨fun h => ?_, fun h1 h2 => ?_, fun h => ?_⟩
  · unfold cmpI; rw [if_pos (val_lt_of_digit hB hl hm he _ (by omega) hd h)]
  · have := val_lt_of_digit hB hm hl he.symm (l.length - 1 - k) (by omega) hd.symm (by omega)
    unfold cmpI; rw [if_neg (by omega), if_neg (by omega)]
  · rw [show l.length - (k + 1) = l.length - 1 - k from by omega, drop_getD l _ (by omega), drop_getD m _ (by omega), h, hd]

set_option maxHeartbeats 400000 in
theorem nat_cmp (A B : Option Addr) (c d : Nat) (l m : List Int) (w : World) (hl : InB B64 l) (hm : InB B64 m) (fl : FormL l) (fm : FormL m) (hA : Rl w A l) (hB : Rl w B m) :
    Calls Try.prog 137 #[.slice A l.length c, .slice B m.length d] w fun e w' => e = .returned (.int .i64 (cmpI (val B64 l) (val B64 m))) ∧ Below w.heap.size w w' := by
  have n1 := hA.len
  have n2 := hB.len
  rcases Nat.lt_trichotomy l.length m.length with h | h | h
  · have hv : cmpI (val B64 l) (val B64 m) = -1 := by unfold cmpI; rw [if_pos (val_lt_of_len (by decide) hl hm fm h)]
    rw [hv]; clear hv
    go_enter Try.func137, Try.ntmps137
    go_wp2
    go_ret
    exact ⟨rfl, Below.refl _ _⟩
  · have HD : Hid (l.drop l.length = m.drop l.length) := by rw [List.drop_length, h, List.drop_length]; rfl
    have HE := Lib.hid h
    have h1 : ((l.length : Int) != m.length) = false := by simp [h]
    have h2 : m.length ≤ l.length := by omega
    clear h
    go_enter Try.func137, Try.ntmps137
    go_wp2
    go_loopw [19] (fun t wr => ∃ k : Nat, k ≤ l.length ∧ Hid (l.drop (l.length - k) = m.drop (l.length - k)) ∧ t = .int .i64 k ∧ Below w.heap.size w wr) (fun t _ => l.length - (intOf t).toNat)
    case atStart => exact ⟨0, Nat.zero_le _, HD, rfl, Below.refl _ _⟩
    case round =>
      obtain ⟨k, hk, hd, rfl, hb⟩ := hrel
      by_cases hlt : k < l.length
      · obtain ⟨a1, rfl, hc1⟩ := Rl.at (Kd.C_below hA hb) (l.length - 1 - k) (by omega)
        obtain ⟨a2, rfl, hc2⟩ := Rl.at (Kd.C_below hB hb) (l.length - 1 - k) (by have := HE.out; omega)
        have g1 : 0 ≤ (l.length : Int) - 1 - k := by omega
        have g2 : (l.length : Int) - 1 - k < l.length := by omega
        have g3 : (l.length : Int) - 1 - k < m.length := by have := HE.out; omega
        have HL := Lib.hid (cmp_step (B := B64) (by decide) hl hm HE.out k hlt hd.out)
        go_wp2
        go_quiet (fail)
        go_wp2
        · have hne : (l[l.length - 1 - k]?.getD 0 != m[l.length - 1 - k]?.getD 0) = true := by assumption
          go_quiet (fail)
          go_wp2
          · go_ret
            exact ⟨ret_int (HL.out.1 (by simp only [List.getD_eq_getElem?_getD]; assumption)).symm, pw_below_drewN (pw_below_drewN hb _) _⟩
          · go_ret
            exact ⟨ret_int (HL.out.2.1 (by simpa [List.getD_eq_getElem?_getD] using hne) (by simp only [List.getD_eq_getElem?_getD]; first | assumption | (simp only [Int.not_lt]; assumption))).symm, pw_below_drewN (pw_below_drewN hb _) _⟩
        · have hne : (l[l.length - 1 - k]?.getD 0 != m[l.length - 1 - k]?.getD 0) = false := by assumption
          refine ⟨⟨k + 1, by omega, ?_, by go_num, pw_below_drewN hb _⟩, by simp [intOf]; omega⟩
          exact Lib.hid (HL.out.2.2 (by simpa [List.getD_eq_getElem?_getD] using hne))
      · obtain rfl : k = l.length := by omega
        have hlm : l = m := by have := hd.out; simpa using this
        subst hlm
        go_wp2
        go_ret
        exact ⟨by simp [cmpI], hb⟩
  · have hv : cmpI (val B64 l) (val B64 m) = 1 := by
      have := val_lt_of_len (by decide) hm hl fl h
      unfold cmpI; rw [if_neg (by omega), if_neg (by omega)]
    rw [hv]; clear hv
    go_enter Try.func137, Try.ntmps137
    go_wp2
    go_ret
    exact ⟨rfl, Below.refl _ _⟩
end Go.Proofs.Ytajahomfmcbmlaa.T
