/-
Package calc: copies of numbers and of lists.
-/
import Derived.Test.YtajahomfmcbmlaaRef2
namespace Go.Proofs.Ytajahomfmcbmlaa.T
open Go.RowKit Go.Proofs.YtajahomfmcbmlaaW.PrintWords Go.Proofs.YtajahomfmcbmlaaW.PrintLast Go.Proofs.YtajahomfmcbmlaaW.PrintMore
set_option linter.unusedVariables false

/-- 'append(s, xs...)' of limbs, in a region that draws its order. -/
theorem step_append {ops : Array Oper} {o : Oper} {a : Act} {W : World} {K : Act → World → Prop} {Q : Exit → Act → World → Prop} {E : Prop} {w0 : World} (N : Tmp) (hd : o.dst = some N) (base : Nat) (hgd : o.guard = none) (s x : Operand)
    (ho : o.op = .call { callee := .builtin .append, args := #[s, x], argTypes := #[51, 51] }) (v : Value) (xs ys : List Int) (A : Option Addr) (m c : Nat) (hs : a.eval s = v) (hx : a.eval x = .slice A m c)
    (HO : Ol W base v xs) (HR : Kd.C (Kd.int .u64) W A m ys) (HB : Below base w0 W) (hbase : base ≤ W.heap.size) (hl : xs.length + m ≤ 17592186044416)
    (h : ∀ v1 w1, Ol w1 base v1 (xs ++ ys) → Below base w0 w1 → K (a.put o.dst v1) w1) : if Region.wanted o (yielded ops a.tmps) = true then Oper.wp Try.prog o a W K Q else E := by
  have hw : Region.wanted o (yielded ops a.tmps) = true := by simp [Region.wanted, hgd]
  have := Kd.R_append_rows_step (P := Try.prog) (Kc := K) (Q := Q) (Kd.int .u64) (w0 := w0) base hw s x 51 50 (.int .u64 0) 8 ho Try.underlying51 info_u64 rfl (by decide) (by omega) v xs ys A m c (fun _ => True) (fun _ => False) hs hx HO HR (fun _ _ h => h) (fun _ h => h.elim) (fun _ _ => trivial) HB hbase (by omega) (fun v1 w1 h1 h2 _ _ => h v1 w1 h1 h2)
  rw [if_pos hw] at this ⊢
  exact this

set_option maxRecDepth 10000 in
set_option maxHeartbeats 1000000 in
theorem calc_Copy (s : Bool) (A B : Option Addr) (n k a b : Nat) (l m : List Int) (w : World) (hn : n = l.length) (hk : k = m.length) (hN : n ≤ 549755813888) (hM : k ≤ 549755813888) (h1 : Rl w A l) (h2 : Rl w B m) :
    Calls Try.prog 80 #[.agg #[.bool s, .slice A n a, .slice B k b]] w fun e w' => ∃ v, e = .returned v ∧ Qo w' w.heap.size v s l m ∧ Below w.heap.size w w' := by
  have HN := Lib.hid hn
  have HK := Lib.hid hk
  have h1' : Kd.C (Kd.int .u64) w A n l := by rw [hn]; exact h1
  have h2' : Kd.C (Kd.int .u64) w B k m := by rw [hk]; exact h2
  clear hn hk h1 h2
  go_enter Try.func80, Try.ntmps80
  go_wp2_with fail
  have hW0 : ∀ o1 o2, Below w.heap.size w ((w.alloc o1).alloc o2).drew := fun o1 o2 => (Below.alloc (Below.alloc (Below.refl _ _) (Nat.le_refl _) _) (by simp) _).drew
  go_region_held3 (fun w' => w'.cell? ⟨w.heap.size, 0, none⟩ = some (.bool s) ∧ w'.cell? ⟨w.heap.size, 1, none⟩ = some (.slice A n a) ∧ w'.cell? ⟨w.heap.size, 2, none⟩ = some (.slice B k b)) (first | exact hS2 | exact hS1 | go_keep)
    (first
      | (refine step_append 7 rfl (w0 := ((w.alloc _).alloc _).drew) (w.heap.size + 1 + 1) rfl _ _ rfl _ [] l A n a rfl rfl (Kd.R_nil _ _ _ _ _) (Kd.C_below h1' (hW0 _ _)) (Below.refl _ _) (by simp) (by simp; omega) ?_; intro v1 w7 hv1 hb1
         obtain ⟨A1, c1, rfl⟩ := Kd.R_slice hv1
         have hw7 := (hW0 _ _).trans (hb1.mono (by omega))
         have hx7 : w7.heap[w.heap.size]? = some (.cells #[.bool s, .slice A n a, .slice B k b] 53 (0, 0)) := (hb1.block _ (by omega)).trans (blk_drew (blk_alloc (blk_new w _) _))
         have hy7 : w7.heap[w.heap.size + 1]? = some (.cells #[.bool false, .slice none 0 0, .slice none 0 0] 53 (0, 0)) := (hb1.block _ (by omega)).trans (by have := blk_drew (blk_new (w.alloc (.cells #[.bool s, .slice A n a, .slice B k b] 53 (0, 0))) (.cells #[.bool false, .slice none 0 0, .slice none 0 0] 53 (0, 0))); simpa using this)
         have hS1 : w7.cell? ⟨w.heap.size, 0, none⟩ = some (.bool s) ∧ w7.cell? ⟨w.heap.size, 1, none⟩ = some (.slice A n a) ∧ w7.cell? ⟨w.heap.size, 2, none⟩ = some (.slice B k b) := And.intro (blk_cell hx7 0) (And.intro (blk_cell hx7 1) (blk_cell hx7 2)))
      | (refine step_append 10 rfl (w0 := w7) w7.heap.size rfl _ _ rfl _ [] m B k b rfl rfl (Kd.R_nil _ _ _ _ _) (Kd.C_below h2' hw7) (Below.refl _ _) (Nat.le_refl _) (by simp; omega) ?_; intro v2 w8 hv2 hb2
         obtain ⟨A2, c2, rfl⟩ := Kd.R_slice hv2
         have hw8 := hw7.trans (hb2.mono hw7.size)
         have hx8 := blk_below hx7 hb2
         have hy8 := blk_below hy7 hb2
         have hS2 := And.intro (blk_cell hx8 0) (And.intro (blk_cell hx8 1) (blk_cell hx8 2))
         have hz0 := blk_cell hy8 0
         have hz1 := blk_cell hy8 1
         have hz2 := blk_cell hy8 2
         have hf := blk_frozen hy8))
  go_wp2
  simp only [List.nil_append] at *
  refine bodyPost_ret (results_cell_row rfl _ _ (w.heap.size + 1) 53 #[.bool s, .slice A1 _ c1, .slice A2 _ c2] (0, 0) _ rfl (set3_blk hy8 _ _ _) Try.underlying53 rfl (by kernel_rfl)) rfl ?_
  have hsz : w.heap.size + 1 + 1 ≤ w7.heap.size := by simpa using hb1.size
  exact ⟨_, rfl, Qo.mk2 hv1 hv2 hb2 (Nat.le_refl _) (by omega) (by omega) (by omega) (by omega) _ _ _, set3_below hw8 (by omega) _ _ _⟩
end Go.Proofs.Ytajahomfmcbmlaa.T
