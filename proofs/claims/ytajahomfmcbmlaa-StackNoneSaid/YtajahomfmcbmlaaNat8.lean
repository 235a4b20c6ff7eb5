/-
Rows that are told apart; what a long division's shifts come to.
-/
import Derived.Test.YtajahomfmcbmlaaNat7
namespace Go.Proofs.Ytajahomfmcbmlaa.T
open Go.RowKit Go.Proofs.YtajahomfmcbmlaaW.PrintWords Go.Proofs.YtajahomfmcbmlaaW.PrintLast Go.Proofs.YtajahomfmcbmlaaW.PrintMore
set_option linter.unusedVariables false

/-- A row of limbs of one's own, in one of certain blocks. -/
abbrev Ow (ok : Nat → Prop) (w : World) (base : Nat) (v : Value) (l : List Int) : Prop := Kd.R (Kd.int .u64) 50 w base ok v l
theorem Ow.ol {ok : Nat → Prop} {w : World} {base : Nat} {v : Value} {l : List Int} (h : Ow ok w base v l) : Ol w base v l := Kd.R_mono h (fun _ _ => trivial)
theorem Ow.shape {ok : Nat → Prop} {w : World} {base : Nat} {v : Value} {l : List Int} (h : Ow ok w base v l) (hp : 0 < l.length) : ∃ g cap, v = .slice (some ⟨g, 0, none⟩) l.length cap ∧ base ≤ g ∧ g < w.heap.size ∧ ok g := by
  obtain ⟨g, cap, e, h1, h2, _⟩ := Kd.R_form h hp
  subst e
  exact ⟨g, cap, rfl, h1, h2, h.1 g (by simp [Value.ownBlock])⟩
theorem Ow.put {ok : Nat → Prop} {w : World} {base g n c : Nat} {l : List Int} (h : Ow ok w base (.slice (some ⟨g, 0, none⟩) n c) l) (i : Nat) (x : Int) : Ow ok (w.setCell ⟨g, i, none⟩ (.int .u64 x)) base (.slice (some ⟨g, 0, none⟩) n c) (l.set i x) := by
  have := Kd.R_putn h (i : Int) x
  rw [Int.toNat_natCast] at this
  exact this

theorem row_own {w : World} {g : Nat} {s : List Int} (h : w.heap[g]? = some (.cells (s.map (Value.int .u64)).toArray 50 (0, 0))) {base : Nat} (hb : base ≤ g) (hm : s.length ≤ 1099511627776) : Ow (fun k => k = g) w base (.slice (some ⟨g, 0, none⟩) s.length s.length) s := by
  refine Kd.R_of_own (enc := Value.int .u64) (h1 := fun _ => rfl) ⟨by simp [encs], .inr ⟨g, s.length, _, rfl, hb, h, Nat.le_refl _, by unfold maxLen; omega, by simp, by rw [Nat.mul_one]; exact List.take_of_length_le (by simp)⟩⟩ (fun k hk => by simpa [Value.ownBlock, eq_comm] using hk)

set_option maxHeartbeats 400000 in
theorem low_row (ok : Nat → Prop) (A : Option Addr) (n c : Nat) (l : List Int) (base : Nat) (w : World) (hn : n = l.length) (hb : InB B64 l) (hr : Ow ok w base (.slice A n c) l) :
    Calls Try.prog 139 #[.slice A n c] w fun e w' => ∃ v, e = .returned v ∧ Ow ok w base v (lm B64 (val B64 l).toNat) ∧ w = w' := by
  subst hn
  have hlen := Ol.len (Ow.ol hr)
  have hv : val B64 (l.take l.length) = val B64 l := by rw [List.take_length]
  go_enter Try.func139, Try.ntmps139
  go_wp2
  go_loop [0] (fun t => ∃ m : Nat, m ≤ l.length ∧ Hid (val B64 (l.take m) = val B64 l) ∧ t = .slice A m c) (fun t => match t with | .slice _ m _ => m | _ => 0)
  case atStart => exact ⟨_, Nat.le_refl _, hv, rfl⟩
  case round =>
    obtain ⟨m, hm, hvm, rfl⟩ := hrel
    clear hv
    by_cases h0 : m = 0
    · subst h0
      go_wp2
      go_ret
      have h := hvm.out
      simp only [List.take_zero, val_nil] at h
      exact ⟨_, rfl, by rw [← h]; simp only [Int.toNat_zero, lm_zero]; exact Kd.R_nil _ _ _ _ _, rfl⟩
    · have hm1 : 0 < m := by omega
      obtain ⟨_, hlc, hC⟩ := Kd.R_reads' hr
      obtain ⟨ad, rfl, hc⟩ := Rl.at hC (m - 1) (by omega)
      have hmc : (m : Int) - 1 ≤ (c : Int) := by omega
      have hmc' : 1 ≤ (m : Int) := by omega
      have HS : Hid (val B64 (l.take (m - 1 + 1)) = val B64 (l.take (m - 1)) + B64 ^ (m - 1) * l.getD (m - 1) 0) := val_take_succ _ l (m - 1) (by omega)
      go_wp2
      · have hz : (l[m - 1]?.getD 0 == 0) = true := by assumption
        refine ⟨⟨m - 1, by omega, ?_, rfl⟩, by simp; omega⟩
        have h2 := HS.out
        rw [show m - 1 + 1 = m from by omega, hvm.out, List.getD_eq_getElem?_getD, beq_iff_eq.1 hz] at h2
        exact Lib.hid (by omega)
      · have hz : (l[m - 1]?.getD 0 == 0) = false := by assumption
        go_ret
        refine ⟨_, rfl, ?_, rfl⟩
        rw [← lm_of_take two_le_B64 hb m hm hvm.out (.inr (by rw [List.getD_eq_getElem?_getD]; exact beq_eq_false_iff_ne.1 hz))]
        exact Kd.R_take hr hm

/-- 'make([]uint64, n)', the world written out. -/
theorem wp_make_exact {ops : Array Oper} {Q : Exit → Act → World → Prop} {rest : List Oper} {o : Oper} {a : Act} {W : World} {N : Tmp} (hgd : o.guard = none) (hd : o.dst = some N) (x y : Operand) (ho : o.op = .makeSlice 51 x y) (n : Nat) (hx : a.eval x = .int .i64 n) (hy : a.eval y = .int .i64 n)
    (hl : n ≤ 35184372088832)
    (h : ∀ w1, W.grownBy w1 none → w1.heap.size = W.heap.size + 1 → w1.heap[W.heap.size]? = some (.cells ((List.replicate n (0 : Int)).map (Value.int .u64)).toArray 50 (0, 0)) → wpList Try.prog ops Q rest (a.put o.dst (.slice (some ⟨W.heap.size, 0, none⟩) n n)) w1) : wpList Try.prog ops Q (o :: rest) a W := by
  obtain ⟨i0, hi, hzz⟩ := Option.map_eq_some_iff.1 info_u64
  simp only [Prod.mk.injEq] at hzz
  obtain ⟨hz0, hz1, hz2⟩ := hzz
  have hr := run_make (P := Try.prog) W 51 50 i0 (.int .u64 0) Try.underlying51 hi hz0 .i64 .i64 (n : Int) (n : Int) (by omega) (by omega)
    (by
      have h3 : ((i0.bytes * n : Nat) : Int) ≤ 281474976710656 := by rw [hz2]; omega
      rwa [Int.natCast_mul] at h3) (by omega)
  simp only [Int.toNat_natCast] at hr
  rw [hz1, Nat.mul_one] at hr
  have e : madeCells (Value.int .u64 0).cells n = ((List.replicate n (0 : Int)).map (Value.int .u64)).toArray := by
    apply Array.toList_inj.1
    apply List.ext_getElem?
    intro j
    rcases Nat.lt_or_ge j n with hj | hj
    · simp [madeCells, Value.cells, hj, Nat.mod_one]
    · simp [madeCells, Value.cells, hj]
  rw [e] at hr
  refine Kd.event_run hgd (v := .slice (some ⟨W.heap.size, 0, none⟩) n n) (w1 := W.alloc (.cells ((List.replicate n (0 : Int)).map (Value.int .u64)).toArray 50)) ?_ (h _ (World.grownBy_alloc W _ none) (by simp) ?_)
  · simp [execOp, ho, hx, hy, hr]
  · show (W.heap.push _)[W.heap.size]? = _
    simp
end Go.Proofs.Ytajahomfmcbmlaa.T
