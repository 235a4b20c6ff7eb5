/-
The references' digits: Sub, Add.
-/
import Derived.Test.YtajahomfmcbmlaaDig2
namespace Go.Proofs.Ytajahomfmcbmlaa.T
open Go.RowKit Go.Proofs.YtajahomfmcbmlaaW.PrintWords Go.Proofs.YtajahomfmcbmlaaW.PrintLast Go.Proofs.YtajahomfmcbmlaaW.PrintMore
set_option linter.unusedVariables false

theorem B32e : ((B32 : Nat) : Int) = 4294967296 := rfl
theorem InB.one {z : Int} (h0 : 0 ≤ z) (h1 : z ≤ 4294967295) : InB B32 [z] := fun y hy => by
  have : y = z := by simpa using hy
  have := B32e
  omega

/-- The start of a difference of digits. -/
def Sb (l m s : List Int) (k : Nat) (b : Int) : Prop := s.length = k ∧ InB B32 s ∧ val B32 s - B32 ^ k * b = val B32 (l.take k) - val B32 (m.take k)
theorem Sb.step {l m s : List Int} {k : Nat} {b x y z b2 : Int} (h : Sb l m s k b) (hk : k < l.length) (hx : l.getD k 0 = x) (hy : val B32 (m.take (k + 1)) = val B32 (m.take k) + B32 ^ k * y) (hz : z = x - (b + y) + 4294967296 * b2) (h0 : 0 ≤ z) (h1 : z ≤ 4294967295) : Sb l m (s ++ [z]) (k + 1) b2 := by
  obtain ⟨e1, e2, e3⟩ := h
  refine ⟨by simp [e1], e2.append (InB.one h0 h1), ?_⟩
  rw [val_append, e1, val_take_succ _ _ _ hk, hx, hy, Int.pow_succ, B32e]
  rw [B32e] at e3
  simp only [val_cons, val_nil]
  rw [hz]
  grind
theorem Sb.fin {l m s : List Int} {b : Int} (h : Sb l m s l.length b) (hb : 0 ≤ b) (hm : m.length ≤ l.length) (hle : val B32 m ≤ val B32 l) : val B32 s = val B32 l - val B32 m := by
  obtain ⟨e1, e2, e3⟩ := h
  rw [List.take_length, List.take_of_length_le hm] at e3
  have h1 := val_lt (by decide) e2
  rw [e1] at h1
  have h2 : (0 : Int) < B32 ^ l.length := Int.pow_pos (by decide)
  by_cases hb0 : b = 0
  · subst hb0; rw [Int.mul_zero] at e3; omega
  · have : (B32 : Int) ^ l.length * 1 ≤ B32 ^ l.length * b := Int.mul_le_mul_of_nonneg_left (by omega) (by omega)
    omega

set_option maxRecDepth 10000 in
set_option maxHeartbeats 2000000 in
theorem dig_Sub (A B : Option Addr) (n m c d : Nat) (a b : Nat) (w : World) (hn : n = (Dm a).length) (hm : m = (Dm b).length) (hab : b ≤ a) (hN : n ≤ 274877906944) (hA : Rl w A (Dm a)) (hB : Rl w B (Dm b)) :
    Calls Try.prog 109 #[.slice A n c, .slice B m d] w fun e w' => ∃ A' c', e = .returned (.slice A' (Dm (a - b)).length c') ∧ Rl w' A' (Dm (a - b)) ∧ Below w.heap.size w w' := by
  obtain ⟨l, hl⟩ : ∃ l, Dm a = l := ⟨_, rfl⟩
  obtain ⟨k, hk⟩ : ∃ l, Dm b = l := ⟨_, rfl⟩
  have hlB : InB B32 l := hl ▸ inD a
  have hkB : InB B32 k := hk ▸ inD b
  have hlen : (Dm b).length ≤ (Dm a).length := lm_len_le two_le_B32 _ _ (Nat.lt_of_le_of_lt hab (lm_len_lt two_le_B32 a))
  have hm2 : m ≤ n := by omega
  rw [hl] at hn hA
  rw [hk] at hm hB
  have HL := Lib.hid (And.intro hl hk)
  have HN := Lib.hid (And.intro hn hm)
  clear hl hk hn hm hlen
  go_enter Try.func109, Try.ntmps109
  go_wp2_with ((with_reducible refine gate_dst (N := 12) rfl ?_); refine wp_make_cap w.heap.size rfl rfl _ _ rfl n rfl rfl (by omega) (Below.refl _ _) (Nat.le_refl _) ?_; intro v1 w1 hO1 hb1)
  go_loopw [5, 6, 15] (fun t u i wr => ∃ (k' : Nat) (s : List Int) (v : Value) (bo : Int), k' ≤ n ∧ i = .int .i64 k' ∧ v = t ∧ u = .int .u64 bo ∧ 0 ≤ bo ∧ bo ≤ 1 ∧ Ol wr w.heap.size v s ∧ Hid (Sb l k s k' bo) ∧ Below w.heap.size w wr) (fun _ _ i _ => n - (intOf i).toNat)
  case atStart => exact ⟨0, [], _, 0, Nat.zero_le _, rfl, rfl, rfl, by omega, by omega, hO1, ⟨rfl, InB.nil _, by simp⟩, hb1⟩
  case round =>
    clear hO1 hb1
    obtain ⟨i, s, v, bo, hi, rfl, rfl, rfl, hb0, hb2, hO, hs, hb⟩ := hrel
    by_cases hlt : i < n
    · obtain ⟨a1, x, rfl, hc1, e1, r1, q1⟩ := Rl.dig (Kd.C_below hA hb) hlB i (by have := HN.out; omega)
      by_cases hlt2 : i < m
      · obtain ⟨a2, y, rfl, hc2, e2, r2, q2⟩ := Rl.dig (Kd.C_below hB hb) hkB i (by have := HN.out; omega)
        have HV := Lib.hid (show val B32 (k.take (i + 1)) = val B32 (k.take i) + B32 ^ i * y by rw [val_take_succ _ _ _ (by have := HN.out; omega), e2.out])
        by_cases hxy : x < bo + y
        · obtain ⟨z, hz⟩ : ∃ z, x + 4294967296 - (bo + y) = z := ⟨_, rfl⟩
          have hz0 : 0 ≤ z := by omega
          have hz1 : z ≤ 4294967295 := by omega
          have HS := Lib.hid (hs.out.step (b2 := 1) (z := z) (by have := HN.out; omega) e1.out HV.out (by omega) hz0 hz1)
          go_wp2_with (first
            | ((with_reducible refine gate_dst (N := 40) rfl ?_); refine wp_lit (w0 := wr) wr.heap.size rfl rfl [z] ?hr (Below.refl _ _) (Nat.le_refl _) (by simp) ?_; (case hr => go_simp); intro v1 w3 hO1 hb3; obtain ⟨A1, c1, rfl⟩ := Kd.R_slice hO1)
            | ((with_reducible refine gate_dst (N := 41) rfl ?_); refine wp_append (w0 := w) w.heap.size rfl _ _ rfl v s [z] A1 1 c1 rfl rfl (Kd.R_below hO hb3) (Kd.R_reads' hO1).2.2 (hb.trans (hb3.mono hb.size)) (hb.trans (hb3.mono hb.size)).size (by have := hs.out.1; omega) ?_; intro v2 w4 hO2 hb4))
          exact ⟨⟨i + 1, _, _, 1, by omega, by go_num, rfl, rfl, by omega, by omega, hO2, HS, hb4⟩, by simp [intOf]; omega⟩
        · obtain ⟨z, hz⟩ : ∃ z, x - (bo + y) = z := ⟨_, rfl⟩
          have hz0 : 0 ≤ z := by omega
          have hz1 : z ≤ 4294967295 := by omega
          have HS := Lib.hid (hs.out.step (b2 := 0) (z := z) (by have := HN.out; omega) e1.out HV.out (by omega) hz0 hz1)
          go_wp2_with (first
            | ((with_reducible refine gate_dst (N := 40) rfl ?_); refine wp_lit (w0 := wr) wr.heap.size rfl rfl [z] ?hr (Below.refl _ _) (Nat.le_refl _) (by simp) ?_; (case hr => go_simp); intro v1 w3 hO1 hb3; obtain ⟨A1, c1, rfl⟩ := Kd.R_slice hO1)
            | ((with_reducible refine gate_dst (N := 41) rfl ?_); refine wp_append (w0 := w) w.heap.size rfl _ _ rfl v s [z] A1 1 c1 rfl rfl (Kd.R_below hO hb3) (Kd.R_reads' hO1).2.2 (hb.trans (hb3.mono hb.size)) (hb.trans (hb3.mono hb.size)).size (by have := hs.out.1; omega) ?_; intro v2 w4 hO2 hb4))
          exact ⟨⟨i + 1, _, _, 0, by omega, by go_num, rfl, rfl, by omega, by omega, hO2, HS, hb4⟩, by simp [intOf]; omega⟩
      · have HV := Lib.hid (show val B32 (k.take (i + 1)) = val B32 (k.take i) + B32 ^ i * 0 from take_all_succ _ (by have := HN.out; omega))
        by_cases hxy : x < bo
        · obtain ⟨z, hz⟩ : ∃ z, x + 4294967296 - bo = z := ⟨_, rfl⟩
          have hz0 : 0 ≤ z := by omega
          have hz1 : z ≤ 4294967295 := by omega
          have HS := Lib.hid (hs.out.step (b2 := 1) (z := z) (by have := HN.out; omega) e1.out HV.out (by omega) hz0 hz1)
          go_wp2_with (first
            | ((with_reducible refine gate_dst (N := 40) rfl ?_); refine wp_lit (w0 := wr) wr.heap.size rfl rfl [z] ?hr (Below.refl _ _) (Nat.le_refl _) (by simp) ?_; (case hr => go_simp); intro v1 w3 hO1 hb3; obtain ⟨A1, c1, rfl⟩ := Kd.R_slice hO1)
            | ((with_reducible refine gate_dst (N := 41) rfl ?_); refine wp_append (w0 := w) w.heap.size rfl _ _ rfl v s [z] A1 1 c1 rfl rfl (Kd.R_below hO hb3) (Kd.R_reads' hO1).2.2 (hb.trans (hb3.mono hb.size)) (hb.trans (hb3.mono hb.size)).size (by have := hs.out.1; omega) ?_; intro v2 w4 hO2 hb4))
          exact ⟨⟨i + 1, _, _, 1, by omega, by go_num, rfl, rfl, by omega, by omega, hO2, HS, hb4⟩, by simp [intOf]; omega⟩
        · obtain ⟨z, hz⟩ : ∃ z, x - bo = z := ⟨_, rfl⟩
          have hz0 : 0 ≤ z := by omega
          have hz1 : z ≤ 4294967295 := by omega
          have HS := Lib.hid (hs.out.step (b2 := 0) (z := z) (by have := HN.out; omega) e1.out HV.out (by omega) hz0 hz1)
          go_wp2_with (first
            | ((with_reducible refine gate_dst (N := 40) rfl ?_); refine wp_lit (w0 := wr) wr.heap.size rfl rfl [z] ?hr (Below.refl _ _) (Nat.le_refl _) (by simp) ?_; (case hr => go_simp); intro v1 w3 hO1 hb3; obtain ⟨A1, c1, rfl⟩ := Kd.R_slice hO1)
            | ((with_reducible refine gate_dst (N := 41) rfl ?_); refine wp_append (w0 := w) w.heap.size rfl _ _ rfl v s [z] A1 1 c1 rfl rfl (Kd.R_below hO hb3) (Kd.R_reads' hO1).2.2 (hb.trans (hb3.mono hb.size)) (hb.trans (hb3.mono hb.size)).size (by have := hs.out.1; omega) ?_; intro v2 w4 hO2 hb4))
          exact ⟨⟨i + 1, _, _, 0, by omega, by go_num, rfl, rfl, by omega, by omega, hO2, HS, hb4⟩, by simp [intOf]; omega⟩
    · obtain rfl : i = n := by omega
      have hF : val B32 s = val B32 l - val B32 k := by
        have := hs.out
        rw [HN.out.1] at this
        refine this.fin hb0 (by have := HN.out; omega) ?_
        rw [← HL.out.1, ← HL.out.2, valD, valD]; omega
      have hV : (val B32 s).toNat = a - b := by rw [hF, ← HL.out.1, ← HL.out.2, valD, valD]; omega
      obtain ⟨A1, c1, rfl⟩ := Kd.R_slice hO
      have HV := Lib.hid hV
      clear hF hV
      go_wp2_with fail
      refine (ref_Low' _ _ _ s w.heap.size _ rfl hs.out.2.1 hO).mono ?_
      rintro e w' ⟨v, rfl, hv, rfl⟩
      rw [HV.out] at hv
      obtain ⟨A2, c2, rfl⟩ := Kd.R_slice hv
      go_wp2_with fail
      go_ret
      exact ⟨_, _, rfl, (Kd.R_reads' hv).2.2, hb⟩
end Go.Proofs.Ytajahomfmcbmlaa.T
