/-
Rational numbers of the references: one number.
-/
import Derived.Test.YtajahomfmcbmlaaDig1
import Derived.Deep.RegionHeld3
namespace Go.Proofs.Ytajahomfmcbmlaa.T
open Go.RowKit Go.Proofs.YtajahomfmcbmlaaW.PrintWords Go.Proofs.YtajahomfmcbmlaaW.PrintLast Go.Proofs.YtajahomfmcbmlaaW.PrintMore
set_option linter.unusedVariables false

set_option maxRecDepth 10000 in
set_option maxHeartbeats 1000000 in
theorem ref_Light (s : Bool) (A B : Option Addr) (n m c d : Nat) (N : Int) (w : World) (hn : n ≤ 9223372036854775807) (hm : m ≤ 9223372036854775807) :
    Calls Try.prog 35 #[.agg #[.bool s, .slice A n c, .slice B m d], .int .i64 N] w fun e w' => e = .returned (.bool (decide ((n : Int) ≤ N ∧ (m : Int) ≤ N))) ∧ Below w.heap.size w w' := by
  by_cases h1 : (n : Int) ≤ N
  · rw [show decide ((n : Int) ≤ N ∧ (m : Int) ≤ N) = decide ((m : Int) ≤ N) from by simp [h1]]
    go_enter Try.func35, Try.ntmps35
    go_wp2
    go_ret
    exact ⟨by simp, Below.alloc (Below.refl _ _) (Nat.le_refl _) _⟩
  · rw [show decide ((n : Int) ≤ N ∧ (m : Int) ≤ N) = false from by simp [h1]]
    have h2 : N < (n : Int) := by omega
    go_enter Try.func35, Try.ntmps35
    go_wp2
    go_ret
    exact ⟨rfl, Below.alloc (Below.refl _ _) (Nat.le_refl _) _⟩

set_option maxRecDepth 10000 in
set_option maxHeartbeats 1000000 in
theorem ref3_Same (s t : Bool) (A B A' B' : Option Addr) (a b a' b' : Nat) (l m l' m' : List Int) (w : World) (h1 : Rl w A l) (h2 : Rl w B m) (h3 : Rl w A' l') (h4 : Rl w B' m') :
    Calls Try.prog 45 #[.agg #[.bool s, .slice A l.length a, .slice B m.length b], .agg #[.bool t, .slice A' l'.length a', .slice B' m'.length b']] w fun e w' => e = .returned (.bool (decide (s = t ∧ l = l' ∧ m = m'))) ∧ Below w.heap.size w w' := by
  have hw : ∀ o1 o2, Below w.heap.size w ((w.alloc o1).alloc o2) := fun o1 o2 => Below.alloc (Below.alloc (Below.refl _ _) (Nat.le_refl _) _) (by simp) _
  by_cases hst : s = t
  · subst hst
    by_cases hl : l = l'
    · have e1 : decide (l = l') = true := by simp [hl]
      rw [show decide (s = s ∧ l = l' ∧ m = m') = decide (m = m') from by simp [hl]]
      clear hl
      go_enter Try.func45, Try.ntmps45
      go_wp2_with fail
      refine (ref_Same _ _ _ _ _ _ l l' _ rfl rfl (h1.below (hw _ _)) (h3.below (hw _ _))).mono ?_
      rintro e w1 ⟨rfl, j1, rfl⟩
      rw [e1]
      go_wp2_with fail
      refine (ref_Same _ _ _ _ _ _ m m' _ rfl rfl (h2.below (pw_below_drewN (hw _ _) _)) (h4.below (pw_below_drewN (hw _ _) _))).mono ?_
      rintro e w1 ⟨rfl, j2, rfl⟩
      go_wp2_with fail
      go_ret
      exact ⟨rfl, pw_below_drewN (hw _ _) _⟩
    · have e1 : decide (l = l') = false := by simp [hl]
      rw [show decide (s = s ∧ l = l' ∧ m = m') = false from by simp [hl]]
      clear hl
      go_enter Try.func45, Try.ntmps45
      go_wp2_with fail
      refine (ref_Same _ _ _ _ _ _ l l' _ rfl rfl (h1.below (hw _ _)) (h3.below (hw _ _))).mono ?_
      rintro e w1 ⟨rfl, j1, rfl⟩
      rw [e1]
      go_wp2_with fail
      go_ret
      exact ⟨rfl, pw_below_drewN (hw _ _) _⟩
  · rw [show decide (s = t ∧ l = l' ∧ m = m') = false from by simp [hst]]
    go_enter Try.func45, Try.ntmps45
    go_wp2_with fail
    go_ret
    exact ⟨rfl, hw _ _⟩

/-- A rational number of one's own: its two lists apart. -/
def Qo (w : World) (base : Nat) (v : Value) (s : Bool) (l m : List Int) : Prop :=
  ∃ v1 v2, v = .agg #[.bool s, v1, v2] ∧ Kd.R (Kd.int .u64) 50 w base (fun k => some k ≠ v2.ownBlock) v1 l ∧ Kd.R (Kd.int .u64) 50 w base (fun k => some k ≠ v1.ownBlock) v2 m


/-- Three cells of a block, written. -/
abbrev set3 (W : World) (g : Nat) (x y z : Value) : World := ((W.setCell ⟨g, 0, none⟩ x).setCell ⟨g, 1, none⟩ y).setCell ⟨g, 2, none⟩ z
theorem set3_blk {W : World} {g : Nat} {a b c : Value} {t : TypeId} (h : W.heap[g]? = some (.cells #[a, b, c] t (0, 0))) (x y z : Value) : (set3 W g x y z).heap[g]? = some (.cells #[x, y, z] t (0, 0)) :=
  blk_put (blk_put (blk_put h 0 x rfl) 1 y rfl) 2 z rfl
theorem set3_below {b : Nat} {w W : World} {g : Nat} (h : Below b w W) (hg : b ≤ g) (x y z : Value) : Below b w (set3 W g x y z) := ((h.setCell hg _).setCell hg _).setCell hg _
theorem R_set3 {α : Type} {d : Kd α} {e base : Nat} {ok : Nat → Prop} {W : World} {v : Value} {l : List α} (h : d.R e W base ok v l) {g : Nat} (hok : ∀ k, ok k → k ≠ g) (x y z : Value) : d.R e (set3 W g x y z) base ok v l :=
  Kd.R_far (Kd.R_far (Kd.R_far h hok _) hok _) hok _

/-- Two lists that were made one behind the other, and then a struct of them. -/
theorem Qo.mk2 {base b1 b2 g : Nat} {w7 w8 : World} {v1 v2 : Value} {s : Bool} {l m : List Int} (h1 : Ol w7 b1 v1 l) (h2 : Ol w8 b2 v2 m) (hb : Below w7.heap.size w7 w8) (h72 : w7.heap.size ≤ b2) (hB1 : base ≤ b1) (hB2 : base ≤ b2) (hg1 : g < b1) (hg2 : g < b2) (x y z : Value) :
    Qo (set3 w8 g x y z) base (.agg #[.bool s, v1, v2]) s l m := by
  refine ⟨v1, v2, rfl, Kd.R_lower (Kd.R_mono (R_set3 (ok := fun k => some k ≠ v2.ownBlock ∧ k ≠ g) (Kd.R_mono (Kd.R_below (Kd.R_bound h1) hb) fun k hk => ?_) (fun k hk => hk.2) x y z) fun k hk => hk.1) hB1,
    Kd.R_lower (Kd.R_mono (R_set3 (ok := fun k => some k ≠ v1.ownBlock ∧ k ≠ g) (Kd.R_mono (Kd.R_bound h2) fun k hk => ?_) (fun k hk => hk.2) x y z) fun k hk => hk.1) hB2⟩
  · obtain ⟨_, k1, k2, _⟩ := hk
    exact ⟨fun e => by have := Kd.R_base h2 k e.symm; omega, by omega⟩
  · obtain ⟨_, k1, k2, _⟩ := hk
    exact ⟨fun e => by have := Kd.R_lt h1 k e.symm; omega, by omega⟩

set_option maxRecDepth 10000 in
set_option maxHeartbeats 1000000 in
theorem ref3_Twin (s : Bool) (A B : Option Addr) (n k a b : Nat) (l m : List Int) (w : World) (hn : n = l.length) (hk : k = m.length) (hN : n ≤ 549755813888) (hM : k ≤ 549755813888) (h1 : Rl w A l) (h2 : Rl w B m) :
    Calls Try.prog 50 #[.agg #[.bool s, .slice A n a, .slice B k b]] w fun e w' => ∃ v, e = .returned v ∧ Qo w' w.heap.size v s l m ∧ Below w.heap.size w w' := by
  have HN := Lib.hid hn
  have HK := Lib.hid hk
  clear hn hk
  go_enter Try.func50, Try.ntmps50
  go_wp2_with fail
  have hW0 : ∀ o1 o2, Below w.heap.size w ((w.alloc o1).alloc o2).drew := fun o1 o2 => (Below.alloc (Below.alloc (Below.refl _ _) (Nat.le_refl _) _) (by simp) _).drew
  go_region_held3 (fun w' => w'.cell? ⟨w.heap.size, 0, none⟩ = some (.bool s) ∧ w'.cell? ⟨w.heap.size, 1, none⟩ = some (.slice A n a) ∧ w'.cell? ⟨w.heap.size, 2, none⟩ = some (.slice B k b)) (first | exact hS2 | exact hS1 | go_keep)
    (first
      | (go_at_call_of 91 A; refine (ref_Twin A n a l _ HN.out hN (h1.below (hW0 _ _))).mono ?_; rintro e w7 ⟨v1, rfl, hv1, hb1⟩
         obtain ⟨A1, c1, rfl⟩ := Kd.R_slice hv1
         have hw7 := (hW0 _ _).trans (hb1.mono (hW0 _ _).size)
         have hx7 : w7.heap[w.heap.size]? = some (.cells #[.bool s, .slice A n a, .slice B k b] 53 (0, 0)) := blk_below (blk_drew (blk_alloc (blk_new w _) _)) hb1
         have hy7 : w7.heap[w.heap.size + 1]? = some (.cells #[.bool false, .slice none 0 0, .slice none 0 0] 53 (0, 0)) := by have := blk_below (blk_drew (blk_new (w.alloc _) _)) hb1; simpa using this
         have hS1 : w7.cell? ⟨w.heap.size, 0, none⟩ = some (.bool s) ∧ w7.cell? ⟨w.heap.size, 1, none⟩ = some (.slice A n a) ∧ w7.cell? ⟨w.heap.size, 2, none⟩ = some (.slice B k b) := And.intro (blk_cell hx7 0) (And.intro (blk_cell hx7 1) (blk_cell hx7 2)))

      | (go_at_call_of 91 B; refine (ref_Twin B k b m _ HK.out hM (h2.below hw7)).mono ?_; rintro e w8 ⟨v2, rfl, hv2, hb2⟩
         obtain ⟨A2, c2, rfl⟩ := Kd.R_slice hv2
         have hw8 := hw7.trans (hb2.mono hw7.size)
         have hx8 := blk_below hx7 hb2
         have hy8 := blk_below hy7 hb2
         have hS2 := And.intro (blk_cell hx8 0) (And.intro (blk_cell hx8 1) (blk_cell hx8 2))
         have hz0 := blk_cell hy8 0
         have hz1 := blk_cell hy8 1
         have hz2 := blk_cell hy8 2
         have hf := blk_frozen hy8))
  go_wp2
  refine bodyPost_ret (results_cell_row rfl _ _ (w.heap.size + 1) 53 #[.bool s, .slice A1 l.length c1, .slice A2 m.length c2] (0, 0) _ rfl (set3_blk hy8 _ _ _) Try.underlying53 rfl (by kernel_rfl)) rfl ?_
  have hsz : w.heap.size + 1 + 1 ≤ w7.heap.size := by simpa using hb1.size
  exact ⟨_, rfl, Qo.mk2 hv1 hv2 hb2 (Nat.le_refl _) (by simp; omega) (by omega) (by simp) (by omega) _ _ _, set3_below hw8 (by omega) _ _ _⟩
end Go.Proofs.Ytajahomfmcbmlaa.T
