/-
Small numbers of the references: Word, Int, To, Of.
-/
import Derived.Test.YtajahomfmcbmlaaRef1
namespace Go.Proofs.Ytajahomfmcbmlaa.T
open Go.RowKit Go.Proofs.YtajahomfmcbmlaaW.PrintWords Go.Proofs.YtajahomfmcbmlaaW.PrintLast Go.Proofs.YtajahomfmcbmlaaW.PrintMore
set_option linter.unusedVariables false

set_option maxRecDepth 10000 in
set_option maxHeartbeats 1000000 in
theorem ref_Word (x : Int) (h0 : 0 ≤ x) (h1 : x < B64) (w : World) :
    Calls Try.prog 101 #[.int .u64 x] w fun e w' => ∃ v, e = .returned v ∧ Ol w' w.heap.size v (Dm x.toNat) ∧ Below w.heap.size w w' := by
  have HX := Lib.hid (And.intro h0 h1)
  clear h1
  obtain ⟨lo, hlo⟩ : ∃ z, x % 4294967296 = z := ⟨_, rfl⟩
  obtain ⟨hi, hhi⟩ : ∃ z, x / 4294967296 = z := ⟨_, rfl⟩
  go_enter Try.func101, Try.ntmps101
  go_wp2_with ((with_reducible refine gate_dst (N := 7) rfl ?_); refine wp_lit (w0 := w) w.heap.size rfl rfl [lo, hi] ?hr (Below.refl _ _) (Nat.le_refl _) (by simp) ?_; (case hr => go_simp); intro v1 w3 hO1 hb3; obtain ⟨A1, c1, rfl⟩ := Kd.R_slice hO1)
  refine (ref_Low' _ _ _ [lo, hi] w.heap.size _ rfl (digs_in (s := []) (InB.nil _) HX.out hlo hhi) hO1).mono ?_
  rintro e w' ⟨v, rfl, hv, rfl⟩
  go_wp2_with fail
  go_ret
  have e : val B32 [lo, hi] = x := by
    have h2 : x < 18446744073709551616 := HX.out.2
    simp only [val_cons, val_nil]
    show lo + 4294967296 * (hi + 4294967296 * 0) = x
    omega
  rw [e] at hv
  exact ⟨_, rfl, hv, hb3⟩

/-- A whole number of one's own: sign and list. -/
def Zo (w : World) (base : Nat) (v : Value) (s : Bool) (l : List Int) : Prop := ∃ v1, v = .agg #[.bool s, v1] ∧ Ol w base v1 l

/-- Two cells of a block, written. -/
abbrev set2 (W : World) (g : Nat) (x y : Value) : World := (W.setCell ⟨g, 0, none⟩ x).setCell ⟨g, 1, none⟩ y
theorem set2_blk {W : World} {g : Nat} {a b : Value} {t : TypeId} (h : W.heap[g]? = some (.cells #[a, b] t (0, 0))) (x y : Value) : (set2 W g x y).heap[g]? = some (.cells #[x, y] t (0, 0)) :=
  blk_put (blk_put h 0 x rfl) 1 y rfl
theorem set2_below {b : Nat} {w W : World} {g : Nat} (h : Below b w W) (hg : b ≤ g) (x y : Value) : Below b w (set2 W g x y) := (h.setCell hg _).setCell hg _
theorem R_set2 {α : Type} {d : Kd α} {e base : Nat} {ok : Nat → Prop} {W : World} {v : Value} {l : List α} (h : d.R e W base ok v l) {g : Nat} (hok : ∀ k, ok k → k ≠ g) (x y : Value) : d.R e (set2 W g x y) base ok v l :=
  Kd.R_far (Kd.R_far h hok _) hok _
theorem Zo.mk1 {base b1 g : Nat} {w : World} {v1 : Value} {s : Bool} {l : List Int} (h1 : Ol w b1 v1 l) (hB1 : base ≤ b1) (hg1 : g < b1) (x y : Value) : Zo (set2 w g x y) base (.agg #[.bool s, v1]) s l :=
  ⟨v1, rfl, Kd.R_lower (Kd.R_mono (R_set2 (ok := fun k => k ≠ g) (Kd.R_mono (Kd.R_bound h1) fun k hk => by have := hk.2.1; omega) (fun k hk => hk) x y) fun k _ => trivial) hB1⟩

set_option maxRecDepth 10000 in
set_option maxHeartbeats 1000000 in
theorem ref2_Int (x : Int) (h0 : -9223372036854775808 ≤ x) (h1 : x ≤ 9223372036854775807) (w : World) :
    Calls Try.prog 100 #[.int .i64 x] w fun e w' => ∃ v, e = .returned v ∧ Zo w' w.heap.size v (decide (x < 0)) (Dm x.natAbs) ∧ Below w.heap.size w w' := by
  have hw : ∀ o1, Below w.heap.size w (w.alloc o1) := fun o1 => Below.alloc (Below.refl _ _) (Nat.le_refl _) _
  by_cases hx : x < 0
  · rw [show decide (x < 0) = true from by simp [hx]]
    have HW := Lib.hid (fun W => ref_Word (-(x + 1) + 1) (by omega) (by show _ < (18446744073709551616 : Int); omega) W)
    have e : (-(x + 1) + 1).toNat = x.natAbs := by omega
    rw [e] at HW
    clear e
    go_enter Try.func100, Try.ntmps100
    go_wp2_with fail
    refine (HW.out _).mono ?_
    rintro e w7 ⟨v1, rfl, hv1, hb1⟩
    obtain ⟨A1, c1, rfl⟩ := Kd.R_slice hv1
    have hw7 := (hw _).trans (hb1.mono (hw _).size)
    have hy7 : w7.heap[w.heap.size]? = some (.cells #[.bool false, .slice none 0 0] 79 (0, 0)) := blk_below (blk_new w _) hb1
    have hz0 := blk_cell hy7 0
    have hz1 := blk_cell hy7 1
    have hf := blk_frozen hy7
    go_wp2_with fail
    refine bodyPost_ret (results_cell_row rfl _ _ w.heap.size 79 #[.bool true, .slice A1 _ c1] (0, 0) _ rfl (set2_blk hy7 _ _) Try.underlying79 rfl (by kernel_rfl)) rfl ?_
    exact ⟨_, rfl, Zo.mk1 hv1 (by simp) (by simp) _ _, set2_below hw7 (by omega) _ _⟩
  · rw [show decide (x < 0) = false from by simp [hx]]
    have h3 : 0 ≤ x := by omega
    have HW := Lib.hid (fun W => ref_Word x (by omega) (by show _ < (18446744073709551616 : Int); omega) W)
    have e : x.toNat = x.natAbs := by omega
    rw [e] at HW
    clear e
    go_enter Try.func100, Try.ntmps100
    go_wp2_with fail
    refine (HW.out _).mono ?_
    rintro e w7 ⟨v1, rfl, hv1, hb1⟩
    obtain ⟨A1, c1, rfl⟩ := Kd.R_slice hv1
    have hw7 := (hw _).trans (hb1.mono (hw _).size)
    have hy7 : w7.heap[w.heap.size]? = some (.cells #[.bool false, .slice none 0 0] 79 (0, 0)) := blk_below (blk_new w _) hb1
    have hz0 := blk_cell hy7 0
    have hz1 := blk_cell hy7 1
    have hf := blk_frozen hy7
    go_wp2_with fail
    refine bodyPost_ret (results_cell_row rfl _ _ w.heap.size 79 #[.bool false, .slice A1 _ c1] (0, 0) _ rfl (set2_blk hy7 _ _) Try.underlying79 rfl (by kernel_rfl)) rfl ?_
    exact ⟨_, rfl, Zo.mk1 hv1 (by simp) (by simp) _ _, set2_below hw7 (by omega) _ _⟩

set_option maxRecDepth 10000 in
set_option maxHeartbeats 1000000 in
theorem ref3_Int (x : Int) (h0 : -9223372036854775808 ≤ x) (h1 : x ≤ 9223372036854775807) (w : World) :
    Calls Try.prog 65 #[.int .i64 x] w fun e w' => ∃ v, e = .returned v ∧ Qo w' w.heap.size v (decide (x < 0)) (Dm x.natAbs) (Dm 1) ∧ Below w.heap.size w w' := by
  have hw : ∀ o1, Below w.heap.size w (w.alloc o1) := fun o1 => Below.alloc (Below.refl _ _) (Nat.le_refl _) _
  go_enter Try.func65, Try.ntmps65
  go_wp2_with fail
  refine (ref2_Int x h0 h1 _).mono ?_
  rintro e w7 ⟨v, rfl, ⟨v1, rfl, hv1⟩, hb1⟩
  obtain ⟨A1, c1, rfl⟩ := Kd.R_slice hv1
  have hw7 := (hw _).trans (hb1.mono (hw _).size)
  have hy7 : w7.heap[w.heap.size]? = some (.cells #[.bool false, .slice none 0 0, .slice none 0 0] 81 (0, 0)) := blk_below (blk_new w _) hb1
  go_wp2_with fail
  refine (ref_Word 1 (by omega) (by decide) _).mono ?_
  rintro e w8 ⟨v2, rfl, hv2, hb2⟩
  obtain ⟨A2, c2, rfl⟩ := Kd.R_slice hv2
  have hw8 := hw7.trans (hb2.mono hw7.size)
  have hy8 := blk_below hy7 hb2
  have hz0 := blk_cell hy8 0
  have hz1 := blk_cell hy8 1
  have hz2 := blk_cell hy8 2
  have hf := blk_frozen hy8
  go_wp2_with fail
  refine bodyPost_ret (results_cell_row rfl _ _ w.heap.size 81 #[.bool _, .slice A1 _ c1, .slice A2 _ c2] (0, 0) _ rfl (set3_blk hy8 _ _ _) Try.underlying81 rfl (by kernel_rfl)) rfl ?_
  have hsz : w.heap.size + 1 ≤ w7.heap.size := by simpa using hb1.size
  exact ⟨_, rfl, Qo.mk2 hv1 hv2 hb2 (Nat.le_refl _) (by simp) (by omega) (by simp) (by omega) _ _ _, set3_below hw8 (by omega) _ _ _⟩

set_option maxRecDepth 10000 in
set_option maxHeartbeats 1000000 in
theorem ref3_To (s : Bool) (A B : Option Addr) (n k a b : Nat) (l m : List Int) (w : World) (hn : n = l.length) (hk : k = m.length) (hN : n ≤ 549755813888) (hM : k ≤ 549755813888) (hl : InB B32 l) (fl : FormL l) (hm : InB B32 m) (fm : FormL m) (h1 : Rl w A l) (h2 : Rl w B m) :
    Calls Try.prog 46 #[.agg #[.bool s, .slice A n a, .slice B k b]] w fun e w' => ∃ v, e = .returned v ∧ Qo w' w.heap.size v s (Lm (val B32 l).toNat) (Lm (val B32 m).toNat) ∧ Below w.heap.size w w' := by
  have HN := Lib.hid hn
  have HK := Lib.hid hk
  clear hn hk
  go_enter Try.func46, Try.ntmps46
  go_wp2_with fail
  have hW0 : ∀ o1 o2, Below w.heap.size w ((w.alloc o1).alloc o2).drew := fun o1 o2 => (Below.alloc (Below.alloc (Below.refl _ _) (Nat.le_refl _) _) (by simp) _).drew
  go_region_held3 (fun w' => w'.cell? ⟨w.heap.size, 0, none⟩ = some (.bool s) ∧ w'.cell? ⟨w.heap.size, 1, none⟩ = some (.slice A n a) ∧ w'.cell? ⟨w.heap.size, 2, none⟩ = some (.slice B k b)) (first | exact hS2 | exact hS1 | go_keep)
    (first
      | (go_at_call_of 90 A; refine (ref_To A n a l _ HN.out hl fl hN (h1.below (hW0 _ _))).mono ?_; rintro e w7 ⟨v1, rfl, hv1, hb1⟩
         obtain ⟨A1, c1, rfl⟩ := Kd.R_slice hv1
         have hw7 := (hW0 _ _).trans (hb1.mono (hW0 _ _).size)
         have hx7 : w7.heap[w.heap.size]? = some (.cells #[.bool s, .slice A n a, .slice B k b] 81 (0, 0)) := blk_below (blk_drew (blk_alloc (blk_new w _) _)) hb1
         have hy7 : w7.heap[w.heap.size + 1]? = some (.cells #[.bool false, .slice none 0 0, .slice none 0 0] 53 (0, 0)) := by have := blk_below (blk_drew (blk_new (w.alloc _) _)) hb1; simpa using this
         have hS1 : w7.cell? ⟨w.heap.size, 0, none⟩ = some (.bool s) ∧ w7.cell? ⟨w.heap.size, 1, none⟩ = some (.slice A n a) ∧ w7.cell? ⟨w.heap.size, 2, none⟩ = some (.slice B k b) := And.intro (blk_cell hx7 0) (And.intro (blk_cell hx7 1) (blk_cell hx7 2)))
      | (go_at_call_of 90 B; refine (ref_To B k b m _ HK.out hm fm hM (h2.below hw7)).mono ?_; rintro e w8 ⟨v2, rfl, hv2, hb2⟩
         obtain ⟨A2, c2, rfl⟩ := Kd.R_slice hv2
         have hw8 := hw7.trans (hb2.mono hw7.size)
         have hx8 := blk_below hx7 hb2
         have hy8 := blk_below hy7 hb2
         have hS2 := And.intro (blk_cell hx8 0) (And.intro (blk_cell hx8 1) (blk_cell hx8 2))
         have hz0 := blk_cell hy8 0
         have hz1 := blk_cell hy8 1
         have hz2 := blk_cell hy8 2
         have hf := blk_frozen hy8))
  go_wp2
  refine bodyPost_ret (results_cell_row rfl _ _ (w.heap.size + 1) 53 #[.bool s, .slice A1 _ c1, .slice A2 _ c2] (0, 0) _ rfl (set3_blk hy8 _ _ _) Try.underlying53 rfl (by kernel_rfl)) rfl ?_
  have hsz : w.heap.size + 1 + 1 ≤ w7.heap.size := by simpa using hb1.size
  exact ⟨_, rfl, Qo.mk2 hv1 hv2 hb2 (Nat.le_refl _) (by simp; omega) (by omega) (by simp) (by omega) _ _ _, set3_below hw8 (by omega) _ _ _⟩

theorem Qo.set3 {base b1 g : Nat} {w : World} {v : Value} {s : Bool} {l m : List Int} (h : Qo w b1 v s l m) (hB : base ≤ b1) (hg : g < b1) (x y z : Value) : Qo (set3 w g x y z) base v s l m := by
  obtain ⟨v1, v2, e, h1, h2⟩ := h
  exact ⟨v1, v2, e, Kd.R_lower (Kd.R_mono (R_set3 (ok := fun k => some k ≠ v2.ownBlock ∧ k ≠ g) (Kd.R_mono (Kd.R_bound h1) fun k hk => ⟨hk.1, by have := hk.2.1; omega⟩) (fun k hk => hk.2) x y z) fun k hk => hk.1) hB,
    Kd.R_lower (Kd.R_mono (R_set3 (ok := fun k => some k ≠ v1.ownBlock ∧ k ≠ g) (Kd.R_mono (Kd.R_bound h2) fun k hk => ⟨hk.1, by have := hk.2.1; omega⟩) (fun k hk => hk.2) x y z) fun k hk => hk.1) hB⟩

theorem Dm_len_small {n : Nat} (h : n < 18446744073709551616) : (Dm n).length ≤ 2 := lm_len_le two_le_B32 n 2 (by unfold B32; omega)

set_option maxRecDepth 10000 in
set_option maxHeartbeats 1000000 in
theorem ref3_DocOf (x : Int) (h0 : -9223372036854775808 ≤ x) (h1 : x ≤ 9223372036854775807) (w : World) :
    Calls Try.prog 24 #[.int .i64 x] w fun e w' => ∃ v, e = .returned v ∧ Qo w' w.heap.size v (decide (x < 0)) (Lm x.natAbs) (Lm 1) ∧ Below w.heap.size w w' := by
  have hw : ∀ o1, Below w.heap.size w (w.alloc o1) := fun o1 => Below.alloc (Below.refl _ _) (Nat.le_refl _) _
  have hl := Dm_len_small (n := x.natAbs) (by omega)
  have hl1 := Dm_len_small (n := 1) (by omega)
  go_enter Try.func24, Try.ntmps24
  go_wp2_with fail
  refine (ref3_Int x h0 h1 _).mono ?_
  rintro e w7 ⟨v, rfl, ⟨v1, v2, rfl, hv1, hv2⟩, hb1⟩
  obtain ⟨A1, c1, rfl⟩ := Kd.R_slice hv1
  obtain ⟨A2, c2, rfl⟩ := Kd.R_slice hv2
  have hw7 := (hw _).trans (hb1.mono (hw _).size)
  have hy7 : w7.heap[w.heap.size]? = some (.cells #[.bool false, .slice none 0 0, .slice none 0 0] 53 (0, 0)) := blk_below (blk_new w _) hb1
  go_wp2_with fail
  refine (ref3_To _ _ _ _ _ _ _ (Dm x.natAbs) (Dm 1) _ rfl rfl (by omega) (by omega) (inD _) (formD _) (inD _) (formD _) (Kd.R_reads' hv1).2.2 (Kd.R_reads' hv2).2.2).mono ?_
  rintro e w8 ⟨v, rfl, ⟨v1, v2, rfl, hv3, hv4⟩, hb2⟩
  simp only [valD, Int.toNat_natCast] at hv3 hv4
  obtain ⟨A3, c3, rfl⟩ := Kd.R_slice hv3
  obtain ⟨A4, c4, rfl⟩ := Kd.R_slice hv4
  have hw8 := hw7.trans (hb2.mono hw7.size)
  have hy8 := blk_below hy7 hb2
  have hz0 := blk_cell hy8 0
  have hz1 := blk_cell hy8 1
  have hz2 := blk_cell hy8 2
  have hf := blk_frozen hy8
  go_wp2_with fail
  refine bodyPost_ret (results_cell_row rfl _ _ w.heap.size 53 #[.bool _, .slice A3 _ c3, .slice A4 _ c4] (0, 0) _ rfl (set3_blk hy8 _ _ _) Try.underlying53 rfl (by kernel_rfl)) rfl ?_
  have hsz : w.heap.size + 1 ≤ w7.heap.size := by simpa using hb1.size
  exact ⟨_, rfl, Qo.set3 (base := w.heap.size) (b1 := w7.heap.size) (g := w.heap.size) ⟨_, _, rfl, hv3, hv4⟩ (by omega) (by omega) _ _ _, set3_below hw8 (by omega) _ _ _⟩
end Go.Proofs.Ytajahomfmcbmlaa.T
