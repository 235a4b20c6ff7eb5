/-
tableaulaw17.StackNone answers true.
-/
import Derived.Test.YtajahomfmcbmlaaStackNil
import Derived.Test.YtajahomfmcbmlaaOpen
import Derived.Test.YtajahomfmcbmlaaAwake17
namespace Go.Proofs.Ytajahomfmcbmlaa.T
open Go.RowKit Go.Proofs.YtajahomfmcbmlaaW.PrintWords Go.Proofs.YtajahomfmcbmlaaW.PrintLast Go.Proofs.YtajahomfmcbmlaaW.PrintMore
set_option linter.unusedVariables false

set_option maxRecDepth 10000 in
theorem nil_list (w : World) : Calls Try.prog 70 #[.slice none 0 0, .slice none 0 0] w fun e w' => e = .returned (.bool true) ∧ Below w.heap.size w w' := by
  go_enter Try.func70, Try.ntmps70
  go_wp2_with fail
  go_loopg [13] 0 (fun k t wr => t = .int .i64 0 ∧ w = wr)
  case atStart => exact ⟨rfl, rfl⟩
  case round =>
    obtain ⟨rfl, rfl⟩ := hrel
    go_wp2_with fail
    go_ret
    exact ⟨rfl, Below.refl _ _⟩
set_option maxRecDepth 10000 in
theorem nil_Same14 (w : World) : Calls Try.prog 32 #[.agg #[.slice none 0 0, .slice none 0 0], .agg #[.slice none 0 0, .slice none 0 0]] w fun e w' => e = .returned (.bool true) ∧ Below w.heap.size w w' := by
  go_enter Try.func32, Try.ntmps32
  go_wp2_with fail
  refine (nil_list _).mono ?_
  rintro e w1 ⟨rfl, hb1⟩
  have hx1 : w1.heap[w.heap.size]? = some (.cells #[.slice none 0 0, .slice none 0 0] 59 (0, 0)) := blk_below (blk_alloc (blk_new w _) _) hb1
  have hy1 : w1.heap[w.heap.size + 1]? = some (.cells #[.slice none 0 0, .slice none 0 0] 59 (0, 0)) := by have := blk_below (blk_new (w.alloc _) _) hb1; simpa using this
  have r1 := blk_cell hx1 1
  have s1 := blk_cell hy1 1
  have hb1 := (Below.alloc (Below.alloc (Below.refl _ w) (Nat.le_refl _) (.cells #[.slice none 0 0, .slice none 0 0] 59)) (by simp) (.cells #[.slice none 0 0, .slice none 0 0] 59)).trans (hb1.mono (by simp; omega))
  go_wp2_with fail
  refine (nil_list _).mono ?_
  rintro e w2 ⟨rfl, hb2⟩
  go_wp2_with fail
  go_ret
  exact ⟨rfl, hb1.trans (hb2.mono hb1.size)⟩

set_option maxRecDepth 10000 in
set_option maxHeartbeats 8000000 in
theorem law_StackNone (A B C F G P Q R S : Option Addr) (n0 c0 n1 c1 n2 c2 m0 d0 m1 d1 k0 f0 k1 f1 k2 f2 k3 f3 : Nat) (xs0 xs1 xs2 : List Rw) (w : World) (h0 : Arg w A xs0) (e0 : n0 = xs0.length) (h1 : Arg w B xs1) (e1 : n1 = xs1.length) (h2 : Arg w C xs2) (e2 : n2 = xs2.length) :
    Calls Try.prog 7 #[.agg #[.slice A n0 c0, .slice B n1 c1, .slice C n2 c2], .agg #[.slice F m0 d0, .slice G m1 d1], .agg #[.slice P k0 f0, .slice Q k1 f1, .slice R k2 f2, .slice S k3 f3]] w fun e w' => e = .returned (.bool true) ∧ Below w.heap.size w w' := by
  have E0 := Lib.hid e0
  have E1 := Lib.hid e1
  have E2 := Lib.hid e2
  clear e0 e1 e2
  have hw : ∀ o1 o2 o3, Below w.heap.size w (((w.alloc o1).alloc o2).alloc o3) := fun o1 o2 o3 => (((Below.refl _ w).alloc (Nat.le_refl _) _).alloc (by simp) _).alloc (by simp; omega) _
  go_enter Try.func7, Try.ntmps7
  go_wp2_with fail
  refine (awake17 _).mono ?_
  rintro e w1 ⟨rfl, hb1⟩
  have hx1 : w1.heap[w.heap.size]? = some (.cells #[.slice A n0 c0, .slice B n1 c1, .slice C n2 c2] 43 (0, 0)) := blk_below (blk_alloc (blk_alloc (blk_new w _) _) _) hb1
  have hy1 : w1.heap[w.heap.size + 1]? = some (.cells #[.slice F m0 d0, .slice G m1 d1] 59 (0, 0)) := blk_below (blk_alloc (by have := blk_new (w.alloc (.cells #[.slice A n0 c0, .slice B n1 c1, .slice C n2 c2] 43)) (.cells #[.slice F m0 d0, .slice G m1 d1] 59 (0, 0)); simpa using this) _) hb1
  have hu1 : w1.heap[w.heap.size + 1 + 1]? = some (.cells #[.slice P k0 f0, .slice Q k1 f1, .slice R k2 f2, .slice S k3 f3] 32 (0, 0)) := blk_below (by have := blk_new ((w.alloc (.cells #[.slice A n0 c0, .slice B n1 c1, .slice C n2 c2] 43)).alloc (.cells #[.slice F m0 d0, .slice G m1 d1] 59)) (.cells #[.slice P k0 f0, .slice Q k1 f1, .slice R k2 f2, .slice S k3 f3] 32 (0, 0)); simpa using this) hb1
  have hb1 := (hw _ _ _).trans (hb1.mono (hw _ _ _).size)
  have r := blk_cell hx1 0
  go_wp2_with fail
  refine (ref3_Lights A n0 c0 10 xs0 _ E0.out (h0.reads.below hb1)).mono ?_
  rintro e w2 ⟨rfl, hb2⟩
  have hx2 := blk_below hx1 hb2
  have hy2 := blk_below hy1 hb2
  have hu2 := blk_below hu1 hb2
  have hb2 := hb1.trans (hb2.mono hb1.size)
  obtain ⟨b0, hq0⟩ : ∃ b, lightsR 10 xs0 = b := ⟨_, rfl⟩
  rw [hq0]
  clear hq0
  cases b0
  · go_wp2_with fail
    go_ret
    exact ⟨rfl, hb2⟩
  have r0 := blk_cell hx2 1
  go_wp2_with fail
  refine (ref3_Lights B n1 c1 10 xs1 _ E1.out (h1.reads.below hb2)).mono ?_
  rintro e w3 ⟨rfl, hb3⟩
  have hx3 := blk_below hx2 hb3
  have hy3 := blk_below hy2 hb3
  have hu3 := blk_below hu2 hb3
  have hb3 := hb2.trans (hb3.mono hb2.size)
  obtain ⟨b1, hq1⟩ : ∃ b, lightsR 10 xs1 = b := ⟨_, rfl⟩
  rw [hq1]
  clear hq1
  cases b1
  · go_wp2_with fail
    go_ret
    exact ⟨rfl, hb3⟩
  have r1 := blk_cell hx3 2
  go_wp2_with fail
  refine (ref3_Lights C n2 c2 10 xs2 _ E2.out (h2.reads.below hb3)).mono ?_
  rintro e w4 ⟨rfl, hb4⟩
  have hx4 := blk_below hx3 hb4
  have hy4 := blk_below hy3 hb4
  have hu4 := blk_below hu3 hb4
  have hb4 := hb3.trans (hb4.mono hb3.size)
  obtain ⟨b2, hq2⟩ : ∃ b, lightsR 10 xs2 = b := ⟨_, rfl⟩
  rw [hq2]
  clear hq2
  cases b2
  · go_wp2_with fail
    go_ret
    exact ⟨rfl, hb4⟩
  clear r r0 r1 hx1 hy1 hu1 hx2 hy2 hu2 hx3 hy3 hu3 hb1 hb2 hb3
  have r0 := blk_cell hx4 0
  have r1 := blk_cell hx4 1
  have r2 := blk_cell hx4 2
  go_wp2_with fail
  refine (nil_Primal _ _ _ _).mono ?_
  rintro e w5 ⟨rfl, hb5⟩
  have hx5 := blk_below hx4 hb5
  have hy5 := blk_below hy4 hb5
  have hu5 := blk_below hu4 hb5
  have hb5 := hb4.trans (hb5.mono hb4.size)
  clear r0 r1 r2 hx4 hy4 hu4 hb4
  have r0 := blk_cell hx5 0
  go_wp2_with fail
  refine (nil_Lift _ _ _ _).mono ?_
  rintro e w6 ⟨rfl, hb6⟩
  have hx6 := blk_below hx5 hb6
  have hy6 := blk_below hy5 hb6
  have hu6 := blk_below hu5 hb6
  have hb6 := hb5.trans (hb6.mono hb5.size)
  clear r0 hx5 hy5 hu5 hb5
  have r0 := blk_cell hx6 0
  have r1 := blk_cell hx6 1
  have r2 := blk_cell hx6 2
  go_wp2_with fail
  refine (nil_Dual _ _ _ _ _ _ _ _ _ _).mono ?_
  rintro e w7 ⟨rfl, hb7⟩
  have hx7 := blk_below hx6 hb7
  have hy7 := blk_below hy6 hb7
  have hu7 := blk_below hu6 hb7
  have hb7 := hb6.trans (hb7.mono hb6.size)
  clear r0 r1 r2 hx6 hy6 hu6 hb6
  have hba : ∀ o, Below w7.heap.size w7 (w7.alloc o) := fun o => Below.alloc (Below.refl _ _) (Nat.le_refl _) _
  have r0 : ∀ o, (w7.alloc o).cell? ⟨w.heap.size, 0, none⟩ = some (.slice A n0 c0) := fun o => pw_cell_below (hba o) (blk_cell hx7 0)
  have r1 : ∀ o, (w7.alloc o).cell? ⟨w.heap.size, 1, none⟩ = some (.slice B n1 c1) := fun o => pw_cell_below (hba o) (blk_cell hx7 1)
  have r2 : ∀ o, (w7.alloc o).cell? ⟨w.heap.size, 2, none⟩ = some (.slice C n2 c2) := fun o => pw_cell_below (hba o) (blk_cell hx7 2)
  have s0 : ∀ o, (w7.alloc o).cell? ⟨w.heap.size + 1, 0, none⟩ = some (.slice F m0 d0) := fun o => pw_cell_below (hba o) (blk_cell hy7 0)
  have s1 : ∀ o, (w7.alloc o).cell? ⟨w.heap.size + 1, 1, none⟩ = some (.slice G m1 d1) := fun o => pw_cell_below (hba o) (blk_cell hy7 1)
  go_wp2_with fail
  refine (nil_Basis _ _ _ _ _ _ _ _ _ _ _ _ _ _ _ _).mono ?_
  rintro e w8 ⟨rfl, hb8⟩
  have hbd := (hba (.cells #[.slice none 0 0, .slice none 0 0, .slice none 0 0] 43)).trans (hb8.mono (hba _).size)
  have hx8 := blk_below hx7 hbd
  have hy8 := blk_below hy7 hbd
  have hu8 := blk_below hu7 hbd
  have ho8 : w8.heap[w7.heap.size]? = some (.cells #[.slice none 0 0, .slice none 0 0, .slice none 0 0] 43 (0, 0)) := blk_below (blk_new w7 _) hb8
  have hb8 := hb7.trans (hbd.mono hb7.size)
  clear r0 r1 r2 s0 s1 hx7 hy7 hu7 hba hb7
  have hba : ∀ o o2, Below w8.heap.size w8 ((w8.alloc o).alloc o2) := fun o o2 => Below.alloc (Below.alloc (Below.refl _ _) (Nat.le_refl _) _) (by simp) _
  have u0 : ∀ o o2, ((w8.alloc o).alloc o2).cell? ⟨w.heap.size + 1 + 1, 0, none⟩ = some (.slice P k0 f0) := fun o o2 => pw_cell_below (hba o o2) (blk_cell hu8 0)
  have u1 : ∀ o o2, ((w8.alloc o).alloc o2).cell? ⟨w.heap.size + 1 + 1, 1, none⟩ = some (.slice Q k1 f1) := fun o o2 => pw_cell_below (hba o o2) (blk_cell hu8 1)
  have u2 : ∀ o o2, ((w8.alloc o).alloc o2).cell? ⟨w.heap.size + 1 + 1, 2, none⟩ = some (.slice R k2 f2) := fun o o2 => pw_cell_below (hba o o2) (blk_cell hu8 2)
  have u3 : ∀ o o2, ((w8.alloc o).alloc o2).cell? ⟨w.heap.size + 1 + 1, 3, none⟩ = some (.slice S k3 f3) := fun o o2 => pw_cell_below (hba o o2) (blk_cell hu8 3)
  go_wp2_with fail
  refine (nil_Cert _ _ _ _ _ _ _ _ _ _ _ _ _).mono ?_
  rintro e w9 ⟨rfl, hb9⟩
  have hp9 : w9.heap[w8.heap.size]? = some (.cells #[.slice none 0 0, .slice none 0 0] 59 (0, 0)) := blk_below (blk_alloc (blk_new w8 _) _) hb9
  have hq9 : w9.heap[w8.heap.size + 1]? = some (.cells #[.slice none 0 0, .slice none 0 0, .slice none 0 0] 43 (0, 0)) := by have := blk_below (blk_new (w8.alloc (.cells #[.slice none 0 0, .slice none 0 0] 59)) _) hb9; simpa using this
  have hbd := (hba (.cells #[.slice none 0 0, .slice none 0 0] 59) (.cells #[.slice none 0 0, .slice none 0 0, .slice none 0 0] 43)).trans (hb9.mono (hba _ _).size)
  have ho9 := blk_below ho8 hbd
  have hb9 := hb8.trans (hbd.mono hb8.size)
  clear u0 u1 u2 u3 hx8 hy8 hu8 ho8 hb8 hba hbd
  have ha9 : Below w9.heap.size w9 (w9.alloc (.cells #[.slice none 0 0, .slice none 0 0, .slice none 0 0, .slice none 0 0] 32)) := Below.alloc (Below.refl _ _) (Nat.le_refl _) _
  go_wp2_with fail
  have hs9 : (w9.alloc (.cells #[.slice none 0 0, .slice none 0 0, .slice none 0 0, .slice none 0 0] 32)).heap[w9.heap.size]? = some (.cells #[.slice none 0 0, .slice none 0 0, .slice none 0 0, .slice none 0 0] 32 (0, 0)) := blk_new w9 _
  have hp10 := blk_below hp9 ha9
  have hq10 := blk_below hq9 ha9
  have ho10 := blk_below ho9 ha9
  have hb10 := hb9.trans (ha9.mono hb9.size)
  generalize w9.alloc (.cells #[.slice none 0 0, .slice none 0 0, .slice none 0 0, .slice none 0 0] 32) = w10 at hs9 hp10 hq10 ho10 hb10 ⊢
  refine (nil_Size _).mono ?_
  rintro e w' ⟨rfl, rfl⟩
  have t0 := blk_cell ho10 0
  have t1 := blk_cell ho10 1
  have t2 := blk_cell ho10 2
  go_wp2_with fail
  refine (ref11_SamePoint none none 0 0 0 0 [] [] none none 0 0 0 0 [] [] none none 0 0 0 0 [] [] _ (Kd.C_nil _ _) (Kd.C_nil _ _) rfl rfl (Kd.C_nil _ _) (Kd.C_nil _ _) rfl rfl (Kd.C_nil _ _) (Kd.C_nil _ _) rfl rfl).mono ?_
  rintro e w11 ⟨rfl, hb11⟩
  rw [show decide (([] : List Rw) = [] ∧ ([] : List Rw) = [] ∧ ([] : List Rw) = []) = true by simp]
  have hp11 := blk_below hp10 hb11
  have hq11 := blk_below hq10 hb11
  have hs11 := blk_below hs9 hb11
  have hb11 := hb10.trans (hb11.mono hb10.size)
  clear t0 t1 t2
  have t0 := blk_cell hq11 0
  have t1 := blk_cell hq11 1
  have t2 := blk_cell hq11 2
  go_wp2_with fail
  refine (ref11_SamePoint none none 0 0 0 0 [] [] none none 0 0 0 0 [] [] none none 0 0 0 0 [] [] _ (Kd.C_nil _ _) (Kd.C_nil _ _) rfl rfl (Kd.C_nil _ _) (Kd.C_nil _ _) rfl rfl (Kd.C_nil _ _) (Kd.C_nil _ _) rfl rfl).mono ?_
  rintro e w12 ⟨rfl, hb12⟩
  rw [show decide (([] : List Rw) = [] ∧ ([] : List Rw) = [] ∧ ([] : List Rw) = []) = true by simp]
  have hp12 := blk_below hp11 hb12
  have hs12 := blk_below hs11 hb12
  have hb12 := hb11.trans (hb12.mono hb11.size)
  clear t0 t1 t2
  have t0 := blk_cell hp12 0
  have t1 := blk_cell hp12 1
  go_wp2_with fail
  refine (nil_Same14 _).mono ?_
  rintro e w13 ⟨rfl, hb13⟩
  have hs13 := blk_below hs12 hb13
  have hb13 := hb12.trans (hb13.mono hb12.size)
  clear t0 t1
  have t0 := blk_cell hs13 0
  have t1 := blk_cell hs13 1
  have t2 := blk_cell hs13 2
  have t3 := blk_cell hs13 3
  go_wp2_with fail
  refine (ref12_Same none none 0 0 0 0 [] [] none none 0 0 0 0 [] [] none none 0 0 0 0 [] [] none none 0 0 0 0 [] [] _ (Kd.C_nil _ _) (Kd.C_nil _ _) rfl rfl (Kd.C_nil _ _) (Kd.C_nil _ _) rfl rfl (Kd.C_nil _ _) (Kd.C_nil _ _) rfl rfl (Kd.C_nil _ _) (Kd.C_nil _ _) rfl rfl).mono ?_
  rintro e w14 ⟨rfl, hb14⟩
  rw [show decide (([] : List Rw) = [] ∧ ([] : List Rw) = [] ∧ ([] : List Rw) = [] ∧ ([] : List Rw) = []) = true by simp]
  have hb14 := hb13.trans (hb14.mono hb13.size)
  go_wp2_with fail
  refine (nil_Tightened _).mono ?_
  rintro e w' ⟨rfl, rfl⟩
  go_wp2_with fail
  go_ret
  exact ⟨rfl, hb14⟩
end Go.Proofs.Ytajahomfmcbmlaa.T
