/-
calc.Forms; lists of lists.
-/
import Derived.Test.YtajahomfmcbmlaaForm1
namespace Go.Proofs.Ytajahomfmcbmlaa.T
open Go.RowKit Go.Proofs.YtajahomfmcbmlaaW.PrintWords Go.Proofs.YtajahomfmcbmlaaW.PrintLast Go.Proofs.YtajahomfmcbmlaaW.PrintMore
set_option linter.unusedVariables false

/-- Lists behind a list of headers. -/
def Rls (w : World) (A : Option Addr) (ls : List (List Rw)) : Prop := ∀ i, i < ls.length → ∃ ad B c, A = some ad ∧ w.cell? (ad.add i) = some (.slice B (ls.getD i []).length c) ∧ Rq w B (ls.getD i [])
theorem Rls.nil (w : World) : Rls w none [] := fun i h => by simp at h
theorem Rls.below {w w1 : World} {A : Option Addr} {ls : List (List Rw)} (h : Rls w A ls) (hb : Below w.heap.size w w1) : Rls w1 A ls := fun i hi => by
  obtain ⟨ad, B, c, e, h1, h2⟩ := h i hi
  exact ⟨ad, B, c, e, (hb.cell (World.block_lt_of_cell? w _ h1)).trans h1, h2.below hb⟩

theorem take_all {α : Type} (xs : List α) (f : α → Bool) (z : α) (k : Nat) (hk : k < xs.length) (h : (xs.take k).all f = true) (h2 : f (xs.getD k z) = true) : (xs.take (k + 1)).all f = true := by
  rw [List.take_succ_eq_append_getElem hk, List.all_append, h]
  rw [List.getD_eq_getElem?_getD, List.getElem?_eq_getElem hk] at h2
  simpa using h2
theorem all_not {α : Type} (xs : List α) (f : α → Bool) (z : α) (k : Nat) (hk : k < xs.length) (h2 : f (xs.getD k z) = false) : xs.all f = false := by
  rw [List.getD_eq_getElem?_getD, List.getElem?_eq_getElem hk] at h2
  rw [List.all_eq_false]
  exact ⟨xs[k], List.getElem_mem hk, by simpa using h2⟩

set_option maxRecDepth 10000 in
set_option maxHeartbeats 1000000 in
theorem calc_Forms (A : Option Addr) (n c : Nat) (ls : List (List Rw)) (w : World) (hn : n = ls.length) (hN : n ≤ 1000) (hS : ∀ l ∈ ls, Small l) (hL : ∀ l ∈ ls, l.length ≤ 1099511627776) (hA : Rls w A ls) :
    Calls Try.prog 71 #[.slice A n c] w fun e w' => e = .returned (.bool (ls.all (fun l => l.all formR))) ∧ Below w.heap.size w w' := by
  have HN := Lib.hid hn
  have HS := Lib.hid hS
  have HL := Lib.hid hL
  have HA := Lib.hid hA
  clear hn hS hL hA
  go_enter Try.func71, Try.ntmps71
  go_wp2_with fail
  go_loopw [9] (fun t wr => ∃ (k : Nat), k ≤ n ∧ t = .int .i64 k ∧ Hid ((ls.take k).all (fun l => l.all formR) = true) ∧ Below w.heap.size w wr) (fun t _ => n - (intOf t).toNat)
  case atStart => exact ⟨0, Nat.zero_le _, rfl, rfl, Below.refl _ _⟩
  case round =>
    obtain ⟨k, hk, rfl, hall, hb⟩ := hrel
    by_cases hlt : k < n
    · obtain ⟨ad, B, cB, rfl, hc, hB⟩ := (HA.out.below hb) k (by have := HN.out; omega)
      obtain ⟨xs, hxs⟩ : ∃ x, ls.getD k [] = x := ⟨_, rfl⟩
      have hmem : xs ∈ ls := by rw [← hxs, List.getD_eq_getElem?_getD, List.getElem?_eq_getElem (by have := HN.out; omega)]; exact List.getElem_mem _
      have hsm := Lib.hid (HS.out xs hmem)
      have hln := HL.out xs hmem
      rw [hxs] at hc hB
      have HX := Lib.hid hxs
      clear hxs hmem
      obtain ⟨m, hm⟩ : ∃ m, xs.length = m := ⟨_, rfl⟩
      rw [hm] at hc hln
      have HM := Lib.hid hm
      clear hm
      go_wp2_with fail
      go_loopw [15] (fun t wq => ∃ (j : Nat), j ≤ m ∧ t = .int .i64 j ∧ Hid ((xs.take j).all formR = true) ∧ Below w.heap.size w wq ∧ Below wr.heap.size wr wq) (fun t _ => m - (intOf t).toNat)
      case atStart => exact ⟨0, Nat.zero_le _, rfl, rfl, hb, Below.refl _ _⟩
      case round =>
        obtain ⟨j, hj, rfl, hal2, hb2, hb3⟩ := hrel
        by_cases hlt2 : j < m
        · obtain ⟨ad2, A1, c1, A2, c2, rfl, e1, e2, e3, g1, g2⟩ := Rq.at (hB.below hb3) j (by have := HM.out; omega)
          obtain ⟨p, hp⟩ : ∃ x, xs.getD j zQ = x := ⟨_, rfl⟩
          have hs2 := hsm.out.get j
          rw [hp] at e1 e2 e3 g1 g2 hs2
          have HS2 := Lib.hid hs2
          have HP := Lib.hid hp
          clear hp hs2
          obtain ⟨s, l, q⟩ := p
          have hba : ∀ o, Below wr.heap.size wr (wr.alloc o) := fun o => Below.alloc (Below.refl _ _) (Nat.le_refl _) _
          go_wp2_with fail
          refine (rat_Form s A1 A2 _ _ _ _ l q _ rfl rfl HS2.out (g1.below (hba _)) (g2.below (hba _))).mono ?_
          rintro e w1 ⟨rfl, hb4⟩
          have hb5 := (hba _).trans (hb4.mono (hba _).size)
          cases hf : formR (s, l, q) with
          | true =>
            go_wp2_with fail
            exact ⟨⟨j + 1, by omega, by go_num, take_all _ _ zQ _ (by have := HM.out; omega) hal2.out (by rw [HP.out]; exact hf), hb2.trans (hb5.mono hb2.size), hb3.trans (hb5.mono hb3.size)⟩, by simp [intOf]; omega⟩
          | false =>
            go_wp2_with fail
            go_ret
            refine ⟨ret_bool (all_not ls _ [] k (by have := HN.out; omega) ?_).symm, hb2.trans (hb5.mono hb2.size)⟩
            rw [HX.out]
            exact all_not xs _ zQ j (by have := HM.out; omega) (by rw [HP.out]; exact hf)
        · obtain rfl : j = m := by omega
          go_wp2_with fail
          refine ⟨⟨k + 1, by omega, by go_num, take_all _ _ [] _ (by have := HN.out; omega) hall.out ?_, hb2⟩, by simp [intOf]; omega⟩
          rw [HX.out]
          have := hal2.out
          rwa [← HM.out, List.take_length] at this
    · obtain rfl : k = n := by omega
      go_wp2_with fail
      go_ret
      have := hall.out
      rw [List.take_of_length_le (by have := HN.out; omega)] at this
      exact ⟨ret_bool this.symm, hb⟩
end Go.Proofs.Ytajahomfmcbmlaa.T
