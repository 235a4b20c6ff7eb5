/-
Package stack: the lengths of lists (fits).
-/
import Derived.Test.YtajahomfmcbmlaaStack1
namespace Go.Proofs.Ytajahomfmcbmlaa.T
open Go.RowKit Go.Proofs.YtajahomfmcbmlaaW.PrintWords Go.Proofs.YtajahomfmcbmlaaW.PrintLast Go.Proofs.YtajahomfmcbmlaaW.PrintMore
set_option linter.unusedVariables false

/-- The closure that tells whether a list's length is not the number at g. -/
abbrev longF (g : Nat) : Value := .func (.func 98) #[] #[.pointer (some ⟨g, 0, none⟩)]

set_option maxRecDepth 10000 in
set_option maxHeartbeats 1000000 in
theorem fits_long (x : Int) (w : World) :
    Calls Try.prog 97 #[.int .i64 x] w fun e w' => e = .returned (longF w.heap.size) ∧ w.alloc (.cells #[.int .i64 x] 3) = w' := by
  go_enter Try.func97, Try.ntmps97
  go_wp2
  go_ret
  exact ⟨rfl, rfl⟩

def anyLong (ls : List (List Rw)) (N : Int) : Bool := ls.any (fun l => decide ((l.length : Int) ≠ N))

theorem anyLong_not (ls : List (List Rw)) (N : Int) : anyLong ls N = !ls.all (fun l => decide ((l.length : Int) = N)) := by
  unfold anyLong
  rw [List.not_all_eq_any_not]
  congr 1
  funext l
  simp

set_option maxRecDepth 10000 in
set_option maxHeartbeats 1000000 in
theorem index_func (A : Option Addr) (n c : Nat) (ls : List (List Rw)) (N : Int) (g : Nat) (w : World) (hA : Rls w A ls) (hn : n = ls.length) (hN : n ≤ 1000) (hg : w.cell? ⟨g, 0, none⟩ = some (.int .i64 N)) :
    Calls Try.prog 119 #[.slice A n c, longF g] w fun e w' => ∃ r, e = .returned (.int .i64 r) ∧ decide (0 ≤ r) = anyLong ls N ∧ w = w' := by
  have HN := Lib.hid hn
  have HA := Lib.hid hA
  clear hn hA
  go_enter Try.func119, Try.ntmps119
  go_wp2_with fail
  go_loop [8] (fun t => ∃ (k : Nat), k ≤ n ∧ t = .int .i64 k ∧ Hid ((ls.take k).all (fun l => decide ((l.length : Int) = N)) = true)) (fun t => n - (intOf t).toNat)
  case atStart => exact ⟨0, Nat.zero_le _, rfl, rfl⟩
  case round =>
    obtain ⟨k, hk, rfl, hall⟩ := hrel
    by_cases hlt : k < n
    · obtain ⟨ad, B, cB, rfl, hc, hB⟩ := HA.out k (by have := HN.out; omega)
      obtain ⟨q, hq⟩ : ∃ q, (ls.getD k []).length = q := ⟨_, rfl⟩
      rw [hq] at hc
      have HQ := Lib.hid hq
      clear hq hB
      by_cases hqN : (q : Int) = N
      · go_wp2
        refine ⟨⟨k + 1, by omega, by go_num, take_all _ _ [] _ (by have := HN.out; omega) hall.out (by rw [HQ.out]; simpa using hqN)⟩, by simp [intOf]; omega⟩
      · have hqN2 : ((q : Int) != N) = true := by simpa using hqN
        have HQN := Lib.hid hqN
        clear hqN
        go_wp2
        go_ret
        refine ⟨_, rfl, ?_, rfl⟩
        have h1 := all_not ls (fun l => decide ((l.length : Int) = N)) [] k (by have := HN.out; omega) (by rw [HQ.out]; simpa using HQN.out)
        rw [anyLong_not, h1]
        simp
    · obtain rfl : k = n := by omega
      go_wp2
      go_ret
      refine ⟨_, rfl, ?_, rfl⟩
      have := hall.out
      rw [List.take_of_length_le (by have := HN.out; omega)] at this
      rw [anyLong_not, this]
      simp

set_option maxRecDepth 10000 in
set_option maxHeartbeats 1000000 in
theorem contains_func (A : Option Addr) (n c : Nat) (ls : List (List Rw)) (N : Int) (g : Nat) (w : World) (hA : Rls w A ls) (hn : n = ls.length) (hN : n ≤ 1000) (hg : w.cell? ⟨g, 0, none⟩ = some (.int .i64 N)) :
    Calls Try.prog 99 #[.slice A n c, longF g] w fun e w' => e = .returned (.bool (anyLong ls N)) ∧ w = w' := by
  have HN := Lib.hid hn
  have HA := Lib.hid hA
  clear hn hA
  go_enter Try.func99, Try.ntmps99
  go_wp2_with fail
  refine (index_func A n c ls N g w HA.out HN.out hN hg).mono ?_
  rintro e w' ⟨r, rfl, hr, rfl⟩
  have HR := Lib.hid hr
  clear hr
  go_wp2_with fail
  go_ret
  exact ⟨ret_bool HR.out, rfl⟩
end Go.Proofs.Ytajahomfmcbmlaa.T
