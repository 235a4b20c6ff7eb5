/-
tableaulaw17.awake.
-/
import Derived.Test.YtajahomfmcbmlaaStack5
namespace Go.Proofs.Ytajahomfmcbmlaa.T
open Go.RowKit Go.Proofs.YtajahomfmcbmlaaW.PrintWords Go.Proofs.YtajahomfmcbmlaaW.PrintLast Go.Proofs.YtajahomfmcbmlaaW.PrintMore
set_option linter.unusedVariables false

theorem kQ_mk {w : World} {x : Rw} {A B : Option Addr} {a b : Nat} (l1 : x.2.1.length ≤ a) (g1 : Rl w A x.2.1) (l2 : x.2.2.length ≤ b) (g2 : Rl w B x.2.2) : kQ.K w x [.bool x.1, .slice A x.2.1.length a, .slice B x.2.2.length b] :=
  ⟨[.bool x.1], [.slice A x.2.1.length a, .slice B x.2.2.length b], rfl, rfl, ⟨[.slice A x.2.1.length a], [.slice B x.2.2.length b], rfl, ⟨A, a, rfl, l1, g1⟩, ⟨B, b, rfl, l2, g2⟩⟩⟩

/-- A block that is known whole reads as a list of numbers. -/
theorem Rq.blk {w : World} {g : Nat} {cs : Array Value} {t : TypeId} {xs : List Rw} (hb : w.heap[g]? = some (.cells cs t (0, 0))) (hm : xs.length ≤ 9223372036854775807)
    (h : ∀ j p, xs[j]? = some p → ∃ c, kQ.K w p c ∧ c.length = 3 ∧ ∀ i u, c[i]? = some u → cs[j * 3 + i]? = some u) : Rq w (some ⟨g, 0, none⟩) xs := by
  refine ⟨rfl, hm, fun _ => ⟨_, rfl, fun j p hj => ?_⟩⟩
  obtain ⟨c, h1, h2, h3⟩ := h j p hj
  refine ⟨c, h2, h1, fun i u hu => ?_⟩
  have : (⟨g, 0, none⟩ : Addr).add (j * 3 + i) = ⟨g, j * 3 + i, none⟩ := by unfold Addr.add; split <;> simp_all
  show w.cell? ((⟨g, 0, none⟩ : Addr).add (j * 3 + i)) = some u
  rw [this, blk_cell hb, h3 i u hu]

theorem formB_Lm (n : Nat) : formB (Lm n) = true := (formB_iff _).2 (formL n)
theorem Lm_pos {n : Nat} (h : n ≠ 0) : (Lm n).length ≠ 0 := fun e => h ((lm_nil two_le_B64).1 (List.length_eq_zero_iff.1 e))
/-- A whole number as a rational. -/
abbrev iQ (x : Int) : Rw := (decide (x < 0), Lm x.natAbs, Lm 1)
theorem formR_iQ (x : Int) : formR (iQ x) = true := by
  unfold formR
  have h1 := Lm_pos (n := 1) (by decide)
  simp only [formB_Lm]
  by_cases hx : x = 0
  · subst hx
    have h2 : (Lm 0).length = 0 := by rw [Lm, lm_zero]; rfl
    have h3 : decide (Lm 1 = [1]) = true := by rw [Lm_one]; rfl
    simp [h1, h2, h3]
  · have h2 := Lm_pos (n := x.natAbs) (by omega)
    simp [h1, h2, valL]
theorem Sm_iQ (x : Int) (h0 : -9223372036854775808 ≤ x) (h1 : x ≤ 9223372036854775807) : Sm (iQ x) := by
  refine ⟨?_, ?_, inL _, inL _⟩
  · exact Nat.le_trans (lm_len_le two_le_B64 x.natAbs 1 (by unfold B64; omega)) (by decide)
  · exact Nat.le_trans (lm_len_le two_le_B64 1 1 (by unfold B64; omega)) (by decide)

theorem three_at {cs : Array Value} {k : Nat} {a b c : Value} (h0 : cs[k]? = some a) (h1 : cs[k + 1]? = some b) (h2 : cs[k + 2]? = some c) : ∀ i u, [a, b, c][i]? = some u → cs[k + i]? = some u
  | 0, u, h => by simp at h; subst h; exact h0
  | 1, u, h => by simp at h; subst h; exact h1
  | 2, u, h => by simp at h; subst h; exact h2
  | i + 3, u, h => by simp at h

/-- Two numbers in a block. -/
theorem Rq.two {w : World} {g : Nat} {t : TypeId} {x y : Rw} {A1 A2 A3 A4 : Option Addr} {c1 c2 c3 c4 : Nat} (hb : w.heap[g]? = some (.cells #[.bool x.1, .slice A1 x.2.1.length c1, .slice A2 x.2.2.length c2, .bool y.1, .slice A3 y.2.1.length c3, .slice A4 y.2.2.length c4] t (0, 0)))
    (l1 : x.2.1.length ≤ c1) (g1 : Rl w A1 x.2.1) (l2 : x.2.2.length ≤ c2) (g2 : Rl w A2 x.2.2) (l3 : y.2.1.length ≤ c3) (g3 : Rl w A3 y.2.1) (l4 : y.2.2.length ≤ c4) (g4 : Rl w A4 y.2.2) : Rq w (some ⟨g, 0, none⟩) [x, y] :=
  Rq.blk hb (by simp) fun j p hp => by
    match j, hp with
    | 0, hp => simp at hp; subst hp; exact ⟨_, kQ_mk l1 g1 l2 g2, rfl, three_at rfl rfl rfl⟩
    | 1, hp => simp at hp; subst hp; exact ⟨_, kQ_mk l3 g3 l4 g4, rfl, three_at rfl rfl rfl⟩
    | j + 2, hp => simp at hp
theorem Rq.one {w : World} {g : Nat} {t : TypeId} {x : Rw} {A1 A2 : Option Addr} {c1 c2 : Nat} (hb : w.heap[g]? = some (.cells #[.bool x.1, .slice A1 x.2.1.length c1, .slice A2 x.2.2.length c2] t (0, 0)))
    (l1 : x.2.1.length ≤ c1) (g1 : Rl w A1 x.2.1) (l2 : x.2.2.length ≤ c2) (g2 : Rl w A2 x.2.2) : Rq w (some ⟨g, 0, none⟩) [x] :=
  Rq.blk hb (by simp) fun j p hp => by
    match j, hp with
    | 0, hp => simp at hp; subst hp; exact ⟨_, kQ_mk l1 g1 l2 g2, rfl, three_at rfl rfl rfl⟩
    | j + 1, hp => simp at hp

set_option maxRecDepth 10000 in
set_option maxHeartbeats 2000000 in
theorem awake17 (w : World) : Calls Try.prog 11 #[] w fun e w' => e = .returned (.bool true) ∧ Below w.heap.size w w' := by
  go_enter Try.func11, Try.ntmps11
  go_wp2_with fail
  refine (stack_New 2 1 w (by decide) (by decide)).mono ?_
  rintro e w1 ⟨rfl, hs1, hg1, hb1⟩
  go_wp2_with fail
  refine (stack_Size _ 2 1 _ hs1).mono ?_
  rintro e w' ⟨rfl, j, rfl⟩
  have hb2 : Below w.heap.size w (w1.drewN j) := pw_below_drewN hb1 j
  have hs2 : Stk (w1.drewN j) w.heap.size 2 1 := hs1
  generalize w1.drewN j = w2 at hb2 hs2 ⊢
  clear hs1 hg1 hb1
  go_wp2_with fail
  refine (ref3_DocOf 1 (by decide) (by decide) _).mono ?_
  rintro e w3 ⟨q1, rfl, hq1, hb3⟩
  obtain ⟨v1, v2, rfl, hv1, hv2⟩ := hq1
  obtain ⟨A1, c1, rfl⟩ := Kd.R_slice hv1
  obtain ⟨A2, c2, rfl⟩ := Kd.R_slice hv2
  go_wp2_with fail
  refine (ref3_DocOf 2 (by decide) (by decide) _).mono ?_
  rintro e w4 ⟨q2, rfl, hq2, hb4⟩
  obtain ⟨v3, v4, rfl, hv3, hv4⟩ := hq2
  obtain ⟨A3, c3, rfl⟩ := Kd.R_slice hv3
  obtain ⟨A4, c4, rfl⟩ := Kd.R_slice hv4
  have hb5 := hb2.trans (hb3.mono hb2.size)
  have hb6 := hb5.trans (hb4.mono hb5.size)
  have hs4 := (hs2.below hb3).below hb4
  have hw : ∀ o, Below w4.heap.size w4 (w4.alloc o) := fun o => Below.alloc (Below.refl _ _) (Nat.le_refl _) _
  have hv1' := Kd.R_below hv1 hb4
  have hv2' := Kd.R_below hv2 hb4
  obtain ⟨_, k1, r1⟩ := Kd.R_reads' hv1'
  obtain ⟨_, k2, r2⟩ := Kd.R_reads' hv2'
  obtain ⟨_, k3, r3⟩ := Kd.R_reads' hv3
  obtain ⟨_, k4, r4⟩ := Kd.R_reads' hv4
  have hS2 : Small [iQ 1, iQ 2] := fun x hx => by
    rcases List.mem_cons.1 hx with rfl | hx
    · exact Sm_iQ 1 (by decide) (by decide)
    · rw [List.mem_singleton.1 hx]; exact Sm_iQ 2 (by decide) (by decide)
  have hP := fun (t : World) ht (hb : t.heap[w4.heap.size]? = some (.cells #[.bool (iQ 1).1, .slice A1 (iQ 1).2.1.length c1, .slice A2 (iQ 1).2.2.length c2, .bool (iQ 2).1, .slice A3 (iQ 2).2.1.length c3, .slice A4 (iQ 2).2.2.length c4] 53 (0, 0))) => stack_Primal w.heap.size 2 1 (some ⟨w4.heap.size, 0, none⟩) 2 2 [iQ 1, iQ 2] t (hs4.below ht) rfl ⟨hS2, by simp, Rq.two hb k1 (Rl.below r1 ht) k2 (Rl.below r2 ht) k3 (Rl.below r3 ht) k4 (Rl.below r4 ht)⟩
  go_wp2_with fail
  refine (hP _ (hw _) (blk_new w4 _)).mono ?_
  rintro e w5 ⟨hb7, hf0, _⟩
  have hF2 : fitsE [[iQ 1, iQ 2]] [] 2 1 = 0 := by
    have : formsL [[iQ 1, iQ 2]] = true := by simp [formsL, formR_iQ]
    unfold fitsE
    rw [this]
    simp [formsL, anyLong]
  obtain ⟨v5, rfl, hv5⟩ := hf0 hF2
  obtain ⟨A5, c5, rfl⟩ := Kd.R_slice hv5
  have hb8 := hb6.trans (((hw _).trans (hb7.mono (hw _).size)).mono hb6.size)
  have hs5 := (hs4.below (hw _)).below hb7
  go_wp2_with fail
  refine (ref3_DocOf 1 (by decide) (by decide) _).mono ?_
  rintro e w6 ⟨q3, rfl, ⟨v6, v7, rfl, hv6, hv7⟩, hb9⟩
  obtain ⟨A6, c6, rfl⟩ := Kd.R_slice hv6
  obtain ⟨A7, c7, rfl⟩ := Kd.R_slice hv7
  have hb10 := hb8.trans (hb9.mono hb8.size)
  have hs6 := hs5.below hb9
  have hx6 := Kd.R_below hv5 hb9
  have hw6 : ∀ o, Below w6.heap.size w6 (w6.alloc o) := fun o => Below.alloc (Below.refl _ _) (Nat.le_refl _) _
  obtain ⟨_, k6, r6⟩ := Kd.R_reads' hv6
  obtain ⟨_, k7, r7⟩ := Kd.R_reads' hv7
  have hP1 := fun (t : World) ht (hb : t.heap[w6.heap.size]? = some (.cells #[.bool (iQ 1).1, .slice A6 (iQ 1).2.1.length c6, .slice A7 (iQ 1).2.2.length c7] 53 (0, 0))) => stack_Primal w.heap.size 2 1 (some ⟨w6.heap.size, 0, none⟩) 1 1 [iQ 1] t (hs6.below ht) rfl ⟨fun x hx => hS2 x (by rw [List.mem_singleton.1 hx]; simp), by simp, Rq.one hb k6 (Rl.below r6 ht) k7 (Rl.below r7 ht)⟩
  go_wp2_with fail
  refine (hP1 _ (hw6 _) (blk_new w6 _)).mono ?_
  rintro e w7 ⟨hb11, _, hf7⟩
  have hF7 : fitsE [[iQ 1]] [] 2 1 = 7 := by
    have : formsL [[iQ 1]] = true := by simp [formsL, formR_iQ]
    unfold fitsE
    rw [this]
    simp [formsL, anyLong]
  rw [hF7] at hf7
  obtain rfl := hf7 (by decide)
  have hb12 := hb10.trans (((hw6 _).trans (hb11.mono (hw6 _).size)).mono hb10.size)
  have hx7 := Kd.R_below (Kd.R_alloc hx6 (.cells #[.bool (iQ 1).1, .slice A6 (iQ 1).2.1.length c6, .slice A7 (iQ 1).2.2.length c7] 53)) hb11
  have hs7 := (hs6.below (hw6 (.cells #[.bool (iQ 1).1, .slice A6 (iQ 1).2.1.length c6, .slice A7 (iQ 1).2.2.length c7] 53))).below hb11
  obtain ⟨ad, A8, c8, A9, c9, rfl, e1, e2, e3, g1, g2⟩ := Rq.at (Kd.R_reads' hx7).2.2 1 (by decide)
  have e1' : w7.cell? ⟨ad.block, ad.off + 3, none⟩ = some (.bool false) := e1
  have e2' : w7.cell? ⟨ad.block, ad.off + 3 + 1, none⟩ = some (.slice A8 (Lm 2).length c8) := e2
  have e3' : w7.cell? ⟨ad.block, ad.off + 3 + 2, none⟩ = some (.slice A9 (Lm 1).length c9) := e3
  clear e1 e2 e3
  go_wp2_with fail
  refine (stack_NewNot 65 0 _ (by decide)).mono ?_
  rintro e w' ⟨rfl, rfl⟩
  go_wp2_with fail
  have hd2 := fun W => ref3_DocOf 2 (by decide) (by decide) W
  go_region_held3 (fun w' => w'.cell? ⟨ad.block, ad.off + 3, none⟩ = some (.bool false) ∧ w'.cell? ⟨ad.block, ad.off + 3 + 1, none⟩ = some (.slice A8 (Lm 2).length c8) ∧ w'.cell? ⟨ad.block, ad.off + 3 + 2, none⟩ = some (.slice A9 (Lm 1).length c9)) (first | exact ⟨e1', e2', e3'⟩ | exact hS8 | exact hS9 | go_keep)
    (first
      | (go_at_call 24
         (
          refine (hd2 _).mono ?_; rintro e w8 ⟨q4, rfl, ⟨v8, v9, rfl, hv8, hv9⟩, hb13⟩
          have hb13 := (below_drew (Below.refl w7.heap.size w7)).trans hb13
          obtain ⟨A10, c10, rfl⟩ := Kd.R_slice hv8
          obtain ⟨A11, c11, rfl⟩ := Kd.R_slice hv9
          have hS8 := And.intro (pw_cell_below hb13 e1') (And.intro (pw_cell_below hb13 e2') (pw_cell_below hb13 e3'))
          obtain ⟨_, _, r10⟩ := Kd.R_reads' hv8
          obtain ⟨_, _, r11⟩ := Kd.R_reads' hv9
          have r8 := Rl.below g1 hb13
          have r9 := Rl.below g2 hb13
          have hs8 := hs7.below hb13))
      | (go_at_call 45; refine (ref3_Same false false A8 A9 A10 A11 _ _ _ _ (Lm 2) (Lm 1) (Lm 2) (Lm 1) _ r8 r9 r10 r11).mono ?_; rintro e w9 ⟨rfl, hb14⟩
         rw [show decide (false = false ∧ Lm 2 = Lm 2 ∧ Lm 1 = Lm 1) = true from by simp]
         have hS9 := And.intro (pw_cell_below hb14 hS8.1) (And.intro (pw_cell_below hb14 hS8.2.1) (pw_cell_below hb14 hS8.2.2))
         have hs9 := hs8.below hb14)
      | (go_at_call 14; refine (stack_Tightened w.heap.size 2 1 _ hs9).mono ?_; rintro e w' ⟨rfl, j9, rfl⟩))
  go_wp2
  go_ret
  exact ⟨rfl, pw_below_drewN (hb12.trans ((hb13.trans (hb14.mono hb13.size)).mono hb12.size)) _⟩
end Go.Proofs.Ytajahomfmcbmlaa.T
