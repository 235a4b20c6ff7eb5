/-
Package stack: fits, with a stack without steps.
-/
import Derived.Test.YtajahomfmcbmlaaStack2
namespace Go.Proofs.Ytajahomfmcbmlaa.T
open Go.RowKit Go.Proofs.YtajahomfmcbmlaaW.PrintWords Go.Proofs.YtajahomfmcbmlaaW.PrintLast Go.Proofs.YtajahomfmcbmlaaW.PrintMore
set_option linter.unusedVariables false

def formsL (ls : List (List Rw)) : Bool := ls.all (fun l => l.all formR)
def fitsE (ls ms : List (List Rw)) (x y : Int) : Int := if formsL ls && formsL ms then (if anyLong ls x || anyLong ms y then 7 else 0) else 3

/-- Lists that may be handed to a stack. -/
structure Fit (w : World) (A : Option Addr) (n : Nat) (ls : List (List Rw)) : Prop where
  len : n = ls.length
  few : n ≤ 1000
  small : ∀ l ∈ ls, Small l
  short : ∀ l ∈ ls, l.length ≤ 1099511627776
  reads : Rls w A ls

theorem new_one (w : World) (n : Nat) (y : Int) (h : w.heap.size = n + 1) : (w.alloc (.cells #[.int .i64 y] 3)).cell? ⟨n + 1, 0, none⟩ = some (.int .i64 y) := by
  rw [← h]
  exact blk_cell (blk_new w (.cells #[.int .i64 y] 3 (0, 0))) 0

set_option maxRecDepth 10000 in
set_option maxHeartbeats 2000000 in
theorem stack_fits (g : Nat) (x y : Int) (A B : Option Addr) (n m c d : Nat) (ls ms : List (List Rw)) (w : World) (hs : Stk w g x y) (hL : Fit w A n ls) (hM : Fit w B m ms) :
    Calls Try.prog 56 #[.pointer (some ⟨g, 0, none⟩), .slice A n c, .slice B m d] w fun e w' => e = .returned (.int .i64 (fitsE ls ms x y)) ∧ Below w.heap.size w w' := by
  have HL := Lib.hid hL
  have HM := Lib.hid hM
  have HS := Lib.hid hs
  clear hL hM hs
  by_cases f1 : formsL ls = true
  · by_cases f2 : formsL ms = true
    · by_cases g1 : anyLong ls x = true
      · rw [show fitsE ls ms x y = 7 from by simp [fitsE, f1, f2, g1]]
        go_enter Try.func56, Try.ntmps56
        go_wp2_with fail
        refine (calc_Forms A n c ls _ HL.out.len HL.out.few HL.out.small HL.out.short HL.out.reads).mono ?_
        rintro e w1 ⟨rfl, hb1⟩
        rw [show (ls.all fun l => l.all formR) = true from f1]
        go_wp2_with fail
        refine (calc_Forms B m d ms _ HM.out.len HM.out.few HM.out.small HM.out.short (HM.out.reads.below hb1)).mono ?_
        rintro e w2 ⟨rfl, hb2⟩
        rw [show (ms.all fun l => l.all formR) = true from f2]
        have hb2 := hb1.trans (hb2.mono hb1.size)
        have hc := blk_cell (HS.out.below hb2) 2
        have hd := blk_cell (HS.out.below hb2) 3
        go_wp2_with fail
        have hba : ∀ o, Below w2.heap.size w2 (w2.alloc o) := fun o => Below.alloc (Below.refl _ _) (Nat.le_refl _) _
        refine (fits_long x _).mono ?_
        rintro e w3 ⟨rfl, rfl⟩
        have hb3 := hb2.trans ((hba (.cells #[.int .i64 x] 3)).mono hb2.size)
        go_wp2_with fail
        refine (contains_func A n c ls x w2.heap.size _ (HL.out.reads.below hb3) HL.out.len HL.out.few (blk_cell (blk_new w2 _) 0)).mono ?_
        rintro e w4 ⟨rfl, rfl⟩
        rw [show anyLong ls x = true from g1]
        have hd2 := blk_cell (HS.out.below hb3) 3
        go_wp2_with fail
        go_ret
        exact ⟨rfl, hb3⟩
      · have g1' : anyLong ls x = false := by simpa using g1
        by_cases g2 : anyLong ms y = true
        · rw [show fitsE ls ms x y = 7 from by simp [fitsE, f1, f2, g2]]
          clear g1
          go_enter Try.func56, Try.ntmps56
          go_wp2_with fail
          refine (calc_Forms A n c ls _ HL.out.len HL.out.few HL.out.small HL.out.short HL.out.reads).mono ?_
          rintro e w1 ⟨rfl, hb1⟩
          rw [show (ls.all fun l => l.all formR) = true from f1]
          go_wp2_with fail
          refine (calc_Forms B m d ms _ HM.out.len HM.out.few HM.out.small HM.out.short (HM.out.reads.below hb1)).mono ?_
          rintro e w2 ⟨rfl, hb2⟩
          rw [show (ms.all fun l => l.all formR) = true from f2]
          have hb2 := hb1.trans (hb2.mono hb1.size)
          have hc := blk_cell (HS.out.below hb2) 2
          have hd := blk_cell (HS.out.below hb2) 3
          go_wp2_with fail
          have hba : ∀ o, Below w2.heap.size w2 (w2.alloc o) := fun o => Below.alloc (Below.refl _ _) (Nat.le_refl _) _
          refine (fits_long x _).mono ?_
          rintro e w3 ⟨rfl, rfl⟩
          have hb3 := hb2.trans ((hba (.cells #[.int .i64 x] 3)).mono hb2.size)
          go_wp2_with fail
          refine (contains_func A n c ls x w2.heap.size _ (HL.out.reads.below hb3) HL.out.len HL.out.few (blk_cell (blk_new w2 _) 0)).mono ?_
          rintro e w4 ⟨rfl, rfl⟩
          rw [show anyLong ls x = false from g1']
          have hd2 := blk_cell (HS.out.below hb3) 3
          go_wp2_with fail
          have hbb : ∀ o p, Below w.heap.size w ((w2.alloc o).alloc p) := fun o p => Below.alloc (Below.alloc hb2 hb2.size _) (by have := hb2.size; simp; omega) _
          have hcy : ∀ o, ((w2.alloc o).alloc (.cells #[.int .i64 y] 3)).cell? ⟨w2.heap.size + 1, 0, none⟩ = some (.int .i64 y) := fun o => new_one (w2.alloc o) w2.heap.size y (by simp)
          refine (fits_long y _).mono ?_
          rintro e w5 ⟨rfl, rfl⟩
          go_wp2_with fail
          refine (contains_func B m d ms y _ _ (HM.out.reads.below (hbb _ _)) HM.out.len HM.out.few (hcy _)).mono ?_
          rintro e w6 ⟨rfl, rfl⟩
          rw [show anyLong ms y = true from g2]
          go_wp2_with fail
          go_ret
          exact ⟨rfl, hbb _ _⟩
        · have g2' : anyLong ms y = false := by simpa using g2
          rw [show fitsE ls ms x y = 0 from by simp [fitsE, f1, f2, g1', g2']]
          clear g1 g2
          go_enter Try.func56, Try.ntmps56
          go_wp2_with fail
          refine (calc_Forms A n c ls _ HL.out.len HL.out.few HL.out.small HL.out.short HL.out.reads).mono ?_
          rintro e w1 ⟨rfl, hb1⟩
          rw [show (ls.all fun l => l.all formR) = true from f1]
          go_wp2_with fail
          refine (calc_Forms B m d ms _ HM.out.len HM.out.few HM.out.small HM.out.short (HM.out.reads.below hb1)).mono ?_
          rintro e w2 ⟨rfl, hb2⟩
          rw [show (ms.all fun l => l.all formR) = true from f2]
          have hb2 := hb1.trans (hb2.mono hb1.size)
          have hc := blk_cell (HS.out.below hb2) 2
          have hd := blk_cell (HS.out.below hb2) 3
          go_wp2_with fail
          have hba : ∀ o, Below w2.heap.size w2 (w2.alloc o) := fun o => Below.alloc (Below.refl _ _) (Nat.le_refl _) _
          refine (fits_long x _).mono ?_
          rintro e w3 ⟨rfl, rfl⟩
          have hb3 := hb2.trans ((hba (.cells #[.int .i64 x] 3)).mono hb2.size)
          go_wp2_with fail
          refine (contains_func A n c ls x w2.heap.size _ (HL.out.reads.below hb3) HL.out.len HL.out.few (blk_cell (blk_new w2 _) 0)).mono ?_
          rintro e w4 ⟨rfl, rfl⟩
          rw [show anyLong ls x = false from g1']
          have hd2 := blk_cell (HS.out.below hb3) 3
          go_wp2_with fail
          have hbb : ∀ o p, Below w.heap.size w ((w2.alloc o).alloc p) := fun o p => Below.alloc (Below.alloc hb2 hb2.size _) (by have := hb2.size; simp; omega) _
          have hcy : ∀ o, ((w2.alloc o).alloc (.cells #[.int .i64 y] 3)).cell? ⟨w2.heap.size + 1, 0, none⟩ = some (.int .i64 y) := fun o => new_one (w2.alloc o) w2.heap.size y (by simp)
          refine (fits_long y _).mono ?_
          rintro e w5 ⟨rfl, rfl⟩
          go_wp2_with fail
          refine (contains_func B m d ms y _ _ (HM.out.reads.below (hbb _ _)) HM.out.len HM.out.few (hcy _)).mono ?_
          rintro e w6 ⟨rfl, rfl⟩
          rw [show anyLong ms y = false from g2']
          go_wp2_with fail
          go_ret
          exact ⟨rfl, hbb _ _⟩
    · have f2' : formsL ms = false := by simpa using f2
      rw [show fitsE ls ms x y = 3 from by simp [fitsE, f2']]
      clear f2
      go_enter Try.func56, Try.ntmps56
      go_wp2_with fail
      refine (calc_Forms A n c ls _ HL.out.len HL.out.few HL.out.small HL.out.short HL.out.reads).mono ?_
      rintro e w1 ⟨rfl, hb1⟩
      rw [show (ls.all fun l => l.all formR) = true from f1]
      go_wp2_with fail
      refine (calc_Forms B m d ms _ HM.out.len HM.out.few HM.out.small HM.out.short (HM.out.reads.below hb1)).mono ?_
      rintro e w2 ⟨rfl, hb2⟩
      rw [show (ms.all fun l => l.all formR) = false from f2']
      have hb2 := hb1.trans (hb2.mono hb1.size)
      have hc := blk_cell (HS.out.below hb2) 2
      have hd := blk_cell (HS.out.below hb2) 3
      go_wp2_with fail
      go_ret
      exact ⟨rfl, hb2⟩
  · have f1' : formsL ls = false := by simpa using f1
    rw [show fitsE ls ms x y = 3 from by simp [fitsE, f1']]
    clear f1
    go_enter Try.func56, Try.ntmps56
    go_wp2_with fail
    refine (calc_Forms A n c ls _ HL.out.len HL.out.few HL.out.small HL.out.short HL.out.reads).mono ?_
    rintro e w1 ⟨rfl, hb1⟩
    rw [show (ls.all fun l => l.all formR) = false from f1']
    go_wp2_with fail
    go_ret
    exact ⟨rfl, hb1⟩
end Go.Proofs.Ytajahomfmcbmlaa.T
