/-
The references' digits: Shl.
-/
import Derived.Test.YtajahomfmcbmlaaDig5
namespace Go.Proofs.Ytajahomfmcbmlaa.T
open Go.RowKit Go.Proofs.YtajahomfmcbmlaaW.PrintWords Go.Proofs.YtajahomfmcbmlaaW.PrintLast Go.Proofs.YtajahomfmcbmlaaW.PrintMore
set_option linter.unusedVariables false

/-- 'make([]uint64, z, n)'. -/
theorem wp_make_lc {ops : Array Oper} {Q : Exit → Act → World → Prop} {rest : List Oper} {o : Oper} {a : Act} {w0 W : World} (base : Nat) {N : Tmp} (hgd : o.guard = none) (hd : o.dst = some N) (x y : Operand) (ho : o.op = .makeSlice 51 x y) (z n : Nat) (hx : a.eval x = .int .i64 z) (hy : a.eval y = .int .i64 n)
    (hzn : z ≤ n) (hl : n ≤ 35184372088832) (HB : Below base w0 W) (hbase : base ≤ W.heap.size)
    (h : ∀ v1 w1, Ol w1 base v1 (List.replicate z 0) → Below base w0 w1 → wpList Try.prog ops Q rest (a.put o.dst v1) w1) : wpList Try.prog ops Q (o :: rest) a W := by
  obtain ⟨i0, hi, hzz⟩ := Option.map_eq_some_iff.1 info_u64
  simp only [Prod.mk.injEq] at hzz
  obtain ⟨hz0, hz1, hz2⟩ := hzz
  have hr := run_make (P := Try.prog) W 51 50 i0 (.int .u64 0) Try.underlying51 hi hz0 .i64 .i64 (z : Int) (n : Int) (by omega) (by omega)
    (by
      have h3 : ((i0.bytes * n : Nat) : Int) ≤ 281474976710656 := by rw [hz2]; omega
      rwa [Int.natCast_mul] at h3) (by omega)
  simp only [Int.toNat_natCast] at hr
  rw [hz1, Nat.mul_one] at hr
  refine Kd.event_run hgd (v := .slice (some ⟨W.heap.size, 0, none⟩) z n) (w1 := W.alloc (.cells (madeCells (Value.int .u64 0).cells n) 50)) ?_ (h _ _ ?_ (Below.alloc HB hbase _))
  · simp [execOp, ho, hx, hy, hr]
  · have h1 := Kd.R_of_own (enc := Value.int .u64) (h1 := fun _ => rfl) (xs := List.replicate n 0) (v := .slice (some ⟨W.heap.size, 0, none⟩) n n) (by rw [List.length_replicate]; exact own_made_of (enc := Value.int .u64) (d := 0) W base 50 n hbase (by omega)) (ok := fun _ => True) (fun _ _ => trivial)
    have h2 := Kd.R_take h1 (m := z) (by simp; exact hzn)
    rw [List.take_replicate, Nat.min_eq_left hzn] at h2
    exact h2

set_option maxRecDepth 10000 in
set_option maxHeartbeats 2000000 in
theorem dig_Shl (A : Option Addr) (n c : Nat) (a t : Nat) (w : World) (hn : n = (Dm a).length) (hN : n ≤ 274877906944) (ht : t ≤ 8796093022208) (hA : Rl w A (Dm a)) :
    Calls Try.prog 110 #[.slice A n c, .int .i64 t] w fun e w' => ∃ A' c', e = .returned (.slice A' (Dm (a * 2 ^ t)).length c') ∧ Rl w' A' (Dm (a * 2 ^ t)) ∧ Below w.heap.size w w' := by
  obtain ⟨l, hl⟩ : ∃ l, Dm a = l := ⟨_, rfl⟩
  have hlB : InB B32 l := hl ▸ inD a
  rw [hl] at hn hA
  obtain ⟨z, hz⟩ : ∃ z : Nat, t / 32 = z := ⟨_, rfl⟩
  obtain ⟨m, hm⟩ : ∃ z : Nat, t % 32 = z := ⟨_, rfl⟩
  have hz' : (t : Int) / 32 = z := by omega
  have hm' : (t : Int) % 32 = m := by omega
  have hm31 : m ≤ 31 := by omega
  have hzb : z ≤ 274877906944 := by omega
  have HT := Lib.hid (show t = 32 * z + m by omega)
  have HL := Lib.hid hl
  have HN := Lib.hid hn
  clear hz hm hl hn
  by_cases h0 : n = 0
  · subst h0
    go_enter Try.func110, Try.ntmps110
    go_wp2
    go_ret
    have ha : a = 0 := by
      have := HL.out
      have h2 := List.length_eq_zero_iff.1 HN.out.symm
      rw [h2] at this
      exact (lm_nil two_le_B32).1 this
    subst ha
    rw [Nat.zero_mul, show Dm 0 = [] from lm_zero _]
    exact ⟨none, 0, rfl, Kd.C_nil _ _, Below.refl _ _⟩
  · have h1 : 0 < n := by omega
    have h2 : ((n : Int) == 0) = false := by simp; omega
    clear h0
    go_enter Try.func110, Try.ntmps110
    go_wp2_with ((with_reducible refine gate_dst (N := 20) rfl ?_); refine wp_make_lc w.heap.size rfl rfl _ _ rfl z (z + n + 1) rfl rfl (by omega) (by omega) (Below.refl _ _) (Nat.le_refl _) ?_; intro v1 w1 hO1 hb1)
    go_loopw [5, 6, 23] (fun t u i wr => ∃ (k' : Nat) (s : List Int) (v : Value) (cy : Int), k' ≤ n ∧ i = .int .i64 k' ∧ v = t ∧ u = .int .u64 cy ∧ 0 ≤ cy ∧ cy ≤ 4294967295 ∧ Ol wr w.heap.size v s ∧ Hid (Sl l s z m k' cy) ∧ Below w.heap.size w wr) (fun _ _ i _ => n - (intOf i).toNat)
    case atStart => exact ⟨0, _, _, 0, Nat.zero_le _, rfl, rfl, rfl, by omega, by omega, hO1, Sl.start l z m, hb1⟩
    case round =>
      clear hO1 hb1
      obtain ⟨i, s, v, cy, hi, rfl, rfl, rfl, hb0, hb2, hO, hs, hb⟩ := hrel
      by_cases hlt : i < n
      · obtain ⟨a1, x, rfl, hc1, e1, r1, q1⟩ := Rl.dig (Kd.C_below hA hb) hlB i (by have := HN.out; omega)
        obtain ⟨xm, hxm⟩ : ∃ t, x * 2 ^ m = t := ⟨_, rfl⟩
        have hx0 : 0 ≤ xm := by rw [← hxm]; exact Int.mul_nonneg r1 (Int.le_of_lt (Int.pow_pos (by omega)))
        have hx1 : xm ≤ 9223372034707292160 := by
          rw [← hxm]
          have h2 : (2 : Int) ^ m ≤ 2 ^ 31 := pow_mono (by omega) hm31
          exact Int.le_trans (Int.mul_le_mul q1 h2 (Int.le_of_lt (Int.pow_pos (by omega))) (by omega)) (by decide)
        obtain ⟨lo, hlo⟩ : ∃ z, (cy + xm) % 4294967296 = z := ⟨_, rfl⟩
        obtain ⟨hi2, hhi⟩ : ∃ z, (cy + xm) / 4294967296 = z := ⟨_, rfl⟩
        have hz0 : 0 ≤ lo := by omega
        have hz1 : lo ≤ 4294967295 := by omega
        have hc20 : 0 ≤ hi2 := by omega
        have hc21 : hi2 ≤ 4294967295 := by omega
        have HS := Lib.hid (hs.out.step (hi := hi2) (lo := lo) (by have := HN.out; omega) e1.out (by rw [hxm]; omega) hz0 hz1)
        go_wp2_with (first
          | ((with_reducible refine gate_dst (N := 36) rfl ?_); refine wp_lit (w0 := wr) wr.heap.size rfl rfl [lo] ?hr (Below.refl _ _) (Nat.le_refl _) (by simp) ?_; (case hr => go_simp); intro v1 w3 hO1 hb3; obtain ⟨A1, c1, rfl⟩ := Kd.R_slice hO1)
          | ((with_reducible refine gate_dst (N := 37) rfl ?_); refine wp_append (w0 := w) w.heap.size rfl _ _ rfl v s [lo] A1 1 c1 rfl rfl (Kd.R_below hO hb3) (Kd.R_reads' hO1).2.2 (hb.trans (hb3.mono hb.size)) (hb.trans (hb3.mono hb.size)).size (by have := hs.out.1; omega) ?_; intro v2 w4 hO2 hb4))
        exact ⟨⟨i + 1, _, _, hi2, by omega, by go_num, rfl, rfl, by omega, by omega, hO2, HS, hb4⟩, by simp [intOf]; omega⟩
      · have HI := Lib.hid (show i = n by omega)
        have hF : InB B32 (s ++ [cy]) ∧ val B32 (s ++ [cy]) = B32 ^ z * (val B32 l * 2 ^ m) := by
          have h2 := hs.out
          have e : i = l.length := by have := HN.out; have := HI.out; omega
          rw [e] at h2
          exact h2.fin hb0 hb2
        have hV : (val B32 (s ++ [cy])).toNat = a * 2 ^ t := by
          rw [hF.2, ← HL.out, valD, HT.out, Nat.pow_add, Nat.pow_mul]
          have e2 : (2 : Nat) ^ 32 = B32 := rfl
          rw [e2]
          have : ((B32 : Nat) : Int) ^ z * ((a : Int) * 2 ^ m) = ((a * (B32 ^ z * 2 ^ m) : Nat) : Int) := by
            rw [Int.natCast_mul, Int.natCast_mul, Int.natCast_pow, Int.natCast_pow]
            show _ = (a : Int) * (_ * (2 : Int) ^ m)
            generalize ((B32 : Nat) : Int) ^ z = P
            generalize (2 : Int) ^ m = Q
            grind
          rw [this, Int.toNat_natCast]
        have HF := Lib.hid (And.intro hF.1 hV)
        clear hF hV
        go_wp2_with (first
          | ((with_reducible refine gate_dst (N := 43) rfl ?_); refine wp_lit (w0 := wr) wr.heap.size rfl rfl [cy] ?hr (Below.refl _ _) (Nat.le_refl _) (by simp) ?_; (case hr => go_simp); intro v1 w3 hO1 hb3; obtain ⟨A1, c1, rfl⟩ := Kd.R_slice hO1)
          | ((with_reducible refine gate_dst (N := 44) rfl ?_); refine wp_append (w0 := w) w.heap.size rfl _ _ rfl v s [cy] A1 1 c1 rfl rfl (Kd.R_below hO hb3) (Kd.R_reads' hO1).2.2 (hb.trans (hb3.mono hb.size)) (hb.trans (hb3.mono hb.size)).size (by have := hs.out.1; omega) ?_; intro v2 w4 hO2 hb4; obtain ⟨A3, c3, rfl⟩ := Kd.R_slice hO2; obtain ⟨n9, hn9⟩ : ∃ n, (s ++ [cy]).length = n := ⟨_, rfl⟩; rw [hn9] at hO2 ⊢; have HN9 := Lib.hid hn9.symm; clear hn9))
        refine (ref_Low' _ _ _ (s ++ [cy]) w.heap.size _ HN9.out HF.out.1 hO2).mono ?_
        rintro e w' ⟨v, rfl, hv, rfl⟩
        rw [HF.out.2] at hv
        obtain ⟨A2, c2, rfl⟩ := Kd.R_slice hv
        go_wp2_with fail
        go_ret
        exact ⟨_, _, rfl, (Kd.R_reads' hv).2.2, hb4⟩
end Go.Proofs.Ytajahomfmcbmlaa.T
