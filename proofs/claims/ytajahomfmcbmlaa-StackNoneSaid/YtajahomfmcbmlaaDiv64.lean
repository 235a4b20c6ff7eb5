/-
The quotient and the rest of two limbs by one (math/bits.Div64, walked).
-/
import Derived.Test.YtajahomfmcbmlaaNat4
import Derived.Laws.BitsLemmas
import Derived.Laws.Bits64
namespace Go.Proofs.Ytajahomfmcbmlaa.T
open Go.RowKit Go.Proofs.YtajahomfmcbmlaaW.PrintWords Go.Proofs.YtajahomfmcbmlaaW.PrintLast Go.Proofs.YtajahomfmcbmlaaW.PrintMore
set_option linter.unusedVariables false


/-- What is known of a guess q (with its rest r) of the quotient Q of U b + z by a1 b + a0. -/
structure Gs (U a1 a0 z Q q r : Int) : Prop where
  sum : q * a1 + r = U
  q0 : 0 ≤ q
  qb : q ≤ 4294967297
  r0 : 0 ≤ r
  rb : r < 4294967296
  le : Q ≤ q
/-- The parts of a normalized divisor, and the quotient Q of U b + z by it. -/
structure Dv (U a1 a0 z Q : Int) : Prop where
  a1l : 2147483648 ≤ a1
  a1h : a1 < 4294967296
  a0l : 0 ≤ a0
  a0h : a0 < 4294967296
  z0 : 0 ≤ z
  zb : z < 4294967296
  U0 : 0 ≤ U
  Uh : U < a1 * 4294967296 + a0
  Q0 : 0 ≤ Q
  Ql : Q * (a1 * 4294967296 + a0) ≤ U * 4294967296 + z
  Qh : U * 4294967296 + z < (Q + 1) * (a1 * 4294967296 + a0)

theorem Dv.lt {U a1 a0 z Q : Int} (D : Dv U a1 a0 z Q) : Q < 4294967296 := by
  obtain ⟨h1, h2, h3, h4, h5, h6, h7, h8, h9, h10, h11⟩ := D
  rcases Int.lt_or_le Q 4294967296 with h | h
  · exact h
  · have := Int.mul_le_mul_of_nonneg_right h (show 0 ≤ a1 * 4294967296 + a0 by omega)
    omega

/-- A q that is at least Q + 1 times the divisor is above; one with q times the divisor not above is at most Q. -/
theorem Dv.le_of {U a1 a0 z Q q : Int} (D : Dv U a1 a0 z Q) (h : q * (a1 * 4294967296 + a0) ≤ U * 4294967296 + z) : q ≤ Q := by
  rcases Int.lt_or_le Q q with h' | h'
  · have := Int.mul_le_mul_of_nonneg_right (show Q + 1 ≤ q by omega) (show 0 ≤ a1 * 4294967296 + a0 by have := D.a1l; have := D.a0l; omega)
    have := D.Qh
    omega
  · exact h'
theorem Dv.lt_of {U a1 a0 z Q q : Int} (D : Dv U a1 a0 z Q) (h : U * 4294967296 + z < q * (a1 * 4294967296 + a0)) : Q < q := by
  rcases Int.lt_or_le Q q with h' | h'
  · exact h'
  · have := Int.mul_le_mul_of_nonneg_right h' (show 0 ≤ a1 * 4294967296 + a0 by have := D.a1l; have := D.a0l; omega)
    have := D.Ql
    omega

theorem Gs.start {U a1 a0 z Q : Int} (D : Dv U a1 a0 z Q) : Gs U a1 a0 z Q (U / a1) (U - U / a1 * a1) := by
  have h1 := D.a1l
  have e := Int.mul_ediv_add_emod U a1
  have m0 := Int.emod_nonneg U (show a1 ≠ 0 by omega)
  have m1 := Int.emod_lt_of_pos U (show 0 < a1 by omega)
  have c : U / a1 * a1 = a1 * (U / a1) := Int.mul_comm _ _
  have hu := D.Uh
  have ha := D.a1h
  have hb := D.a0h
  have hz := D.zb
  have q0 : 0 ≤ U / a1 := Int.ediv_nonneg D.U0 (by omega)
  refine ⟨by omega, q0, ?_, by omega, by omega, ?_⟩
  · rcases Int.lt_or_le (U / a1) 4294967298 with h | h
    · omega
    · have := Int.mul_le_mul_of_nonneg_left h (show 0 ≤ a1 by omega)
      omega
  · have := Int.mul_le_mul_of_nonneg_left (show U + 1 ≤ a1 * (U / a1 + 1) by rw [Int.mul_add]; omega) (show (0 : Int) ≤ 4294967296 by omega)
    have h9 : (U / a1 + 1) * (a1 * 4294967296 + a0) = 4294967296 * (a1 * (U / a1 + 1)) + (U / a1 + 1) * a0 := by grind
    have h8 := Int.mul_nonneg (show 0 ≤ U / a1 + 1 by omega) D.a0l
    have := D.lt_of (q := U / a1 + 1) (by omega)
    omega

theorem Gs.prod {U a1 a0 z Q q r : Int} (G : Gs U a1 a0 z Q q r) : q * (a1 * 4294967296 + a0) = (U - r) * 4294967296 + q * a0 := by
  have := G.sum
  have e : q * (a1 * 4294967296 + a0) = (q * a1) * 4294967296 + q * a0 := by grind
  rw [e]
  have : q * a1 = U - r := by omega
  rw [this]

theorem Gs.down {U a1 a0 z Q q r : Int} (D : Dv U a1 a0 z Q) (G : Gs U a1 a0 z Q q r) (h : 4294967296 ≤ q ∨ 4294967296 * r + z < q * a0) : 1 ≤ q ∧ (q - 1) * a1 + (r + a1) = U ∧ Q ≤ q - 1 ∧ (4294967296 ≤ r + a1 → q - 1 = Q) := by
  have hq : Q < q := by
    rcases h with h | h
    · have := D.lt; omega
    · exact D.lt_of (by rw [G.prod]; omega)
  have hQ := D.Q0
  have s : (q - 1) * a1 + (r + a1) = U := by have := G.sum; grind
  refine ⟨by omega, s, by omega, fun hr => ?_⟩
  have e : (q - 1) * (a1 * 4294967296 + a0) = ((q - 1) * a1) * 4294967296 + (q - 1) * a0 := by grind
  have e2 : (q - 1) * a1 = U - (r + a1) := by omega
  have hu := D.Uh
  have ha := D.a0h
  have h1 := D.a1l
  have qlt : q - 1 < 4294967296 := by
    rcases Int.lt_or_le (q - 1) 4294967296 with h' | h'
    · exact h'
    · have := Int.mul_le_mul_of_nonneg_right h' (show 0 ≤ a1 by omega)
      omega
  have h3 : (q - 1) * a0 ≤ 4294967296 * 4294967296 := Int.mul_le_mul (by omega) (by omega) D.a0l (by omega)
  have := D.le_of (q := q - 1) (by rw [e, e2]; have := D.z0; omega)
  omega

theorem Gs.stop {U a1 a0 z Q q r : Int} (D : Dv U a1 a0 z Q) (G : Gs U a1 a0 z Q q r) (h : q * a0 ≤ 4294967296 * r + z) : q = Q := by
  have := D.le_of (q := q) (by rw [G.prod]; omega)
  have := G.le
  omega

theorem u64_wrap {n : Int} (h0 : 0 ≤ n) (h1 : n < 18446744073709551616) : IntKind.u64.wrap n = n := by rw [IntKind.wrap_u64, Int.emod_eq_of_lt h0 h1]
theorem u64_wraps (n : Int) (h0 : 0 ≤ n) (h1 : n < 2 ^ 64) : IntKind.u64.wrap n = n := u64_wrap h0 (by simpa using h1)

theorem halves {L b1 b0 : Int} (h0 : 0 ≤ L) (h1 : L < 18446744073709551616) (hb1 : L / 4294967296 = b1) (hb0 : bits .and .u64 L 4294967295 = b0) : L = b1 * 4294967296 + b0 ∧ 0 ≤ b1 ∧ b1 < 4294967296 ∧ 0 ≤ b0 ∧ b0 < 4294967296 := by
  have := bits_mask .u64 64 (by decide) u64_wraps 32 (by decide) L h0 (by simpa using h1)
  have e : bits .and .u64 L 4294967295 = L % 4294967296 := by simpa using this
  omega

theorem Dv.of {U a1 a0 z : Int} (a1l : 2147483648 ≤ a1) (a1h : a1 < 4294967296) (a0l : 0 ≤ a0) (a0h : a0 < 4294967296) (z0 : 0 ≤ z) (zb : z < 4294967296) (U0 : 0 ≤ U) (Uh : U < a1 * 4294967296 + a0) :
    Dv U a1 a0 z ((U * 4294967296 + z) / (a1 * 4294967296 + a0)) := by
  have d := Int.mul_ediv_add_emod (U * 4294967296 + z) (a1 * 4294967296 + a0)
  have m0 := Int.emod_nonneg (U * 4294967296 + z) (show a1 * 4294967296 + a0 ≠ 0 by omega)
  have m1 := Int.emod_lt_of_pos (U * 4294967296 + z) (show 0 < a1 * 4294967296 + a0 by omega)
  have q0 : 0 ≤ (U * 4294967296 + z) / (a1 * 4294967296 + a0) := Int.ediv_nonneg (by omega) (by omega)
  generalize (U * 4294967296 + z) % (a1 * 4294967296 + a0) = M at *
  generalize (U * 4294967296 + z) / (a1 * 4294967296 + a0) = Q at *
  have e1 : Q * (a1 * 4294967296 + a0) = (a1 * 4294967296 + a0) * Q := Int.mul_comm _ _
  have e2 : (Q + 1) * (a1 * 4294967296 + a0) = (a1 * 4294967296 + a0) * Q + (a1 * 4294967296 + a0) := by rw [Int.add_mul, e1, Int.one_mul]
  exact ⟨a1l, a1h, a0l, a0h, z0, zb, U0, Uh, q0, by rw [e1]; omega, by rw [e2]; omega⟩

theorem Gs.of {U a1 a0 z Q q qa r : Int} (D : Dv U a1 a0 z Q) (hU : U < 18446744073709551616) (hq : IntKind.u64.wrap (U.tdiv a1) = q) (hqa : IntKind.u64.wrap (q * a1) = qa) (hr : IntKind.u64.wrap (U - qa) = r) : Gs U a1 a0 z Q q r := by
  have G := Gs.start D
  have h1 := G.qb
  have h2 := G.sum
  have h3 := G.r0
  have h4 := G.rb
  have h5 := Int.mul_nonneg G.q0 (show 0 ≤ a1 by have := D.a1l; omega)
  have eq1 : q = U / a1 := by rw [← hq, Int.tdiv_eq_ediv_of_nonneg D.U0, u64_wrap G.q0 (by omega)]
  have eqa : qa = U / a1 * a1 := by rw [← hqa, eq1, u64_wrap h5 (by omega)]
  have er : r = U - U / a1 * a1 := by rw [← hr, eqa, u64_wrap h3 (by omega)]
  rw [eq1, er]; exact G

theorem Gs.round {U a1 a0 z Q q r q1 r1 m1 m2 m3 : Int} (D : Dv U a1 a0 z Q) (G : Gs U a1 a0 z Q q r) (hq1 : IntKind.u64.wrap (q - 1) = q1) (hr1 : IntKind.u64.wrap (r + a1) = r1) (h1 : IntKind.u64.wrap (q * a0) = m1) (h2 : IntKind.u64.wrap (4294967296 * r) = m2) (h3 : IntKind.u64.wrap (m2 + z) = m3) :
    ((4294967296 ≤ q ∨ q < 4294967296 ∧ m3 < m1) → 0 ≤ q1 ∧ q1 < q ∧ (r1 < 4294967296 → Gs U a1 a0 z Q q1 r1) ∧ (4294967296 ≤ r1 → q1 = Q)) ∧ (q < 4294967296 → m1 ≤ m3 → q = Q) := by
  have g0 := G.q0
  have g1 := G.qb
  have g2 := G.r0
  have g3 := G.rb
  have d1 := D.a1l
  have d2 := D.a1h
  have d3 := D.z0
  have d4 := D.zb
  have hlt : q < 4294967296 → m1 = q * a0 ∧ m3 = 4294967296 * r + z := by
    intro hq
    have n1 : q * a0 ≤ 4294967295 * 4294967295 := Int.mul_le_mul (by omega) (by have := D.a0h; omega) D.a0l (by omega)
    have n0 := Int.mul_nonneg g0 D.a0l
    have e2 : m2 = 4294967296 * r := by rw [← h2, u64_wrap (by omega) (by omega)]
    exact ⟨by rw [← h1, u64_wrap n0 (by omega)], by rw [← h3, e2, u64_wrap (by omega) (by omega)]⟩
  refine ⟨fun h => ?_, fun hq hm => ?_⟩
  · have hd : 4294967296 ≤ q ∨ 4294967296 * r + z < q * a0 := by
      rcases h with h | ⟨h, k⟩
      · exact .inl h
      · obtain ⟨e1, e3⟩ := hlt h
        right; omega
    obtain ⟨k1, k2, k3, k4⟩ := Gs.down D G hd
    have e1 : q1 = q - 1 := by rw [← hq1, u64_wrap (by omega) (by omega)]
    have e2 : r1 = r + a1 := by rw [← hr1, u64_wrap (by omega) (by omega)]
    rw [e1, e2]
    exact ⟨by omega, by omega, fun hr => ⟨k2, by omega, by omega, by omega, hr, k3⟩, k4⟩
  · obtain ⟨e1, e3⟩ := hlt hq
    exact Gs.stop D G (by omega)

theorem div_parts {x l y Y U L : Int} {s : Nat} (hs : s < 64) (hx : 0 ≤ x) (hxy : x < y) (hl : 0 ≤ l ∧ l < 18446744073709551616) (h2 : y * 2 ^ s < 18446744073709551616) (hY : IntKind.u64.wrap (y * 2 ^ s) = Y) (hU : bits .or .u64 (IntKind.u64.wrap (x * 2 ^ s)) (l / 2 ^ (64 - s)) = U) (hL : IntKind.u64.wrap (l * 2 ^ s) = L) :
    Y = y * 2 ^ s ∧ 0 ≤ U ∧ U < Y ∧ 0 ≤ L ∧ L < 18446744073709551616 ∧ U * 18446744073709551616 + L = (x * 18446744073709551616 + l) * 2 ^ s := by
  have hP : (0 : Int) < 2 ^ s := Int.pow_pos (by omega)
  have hR : (0 : Int) < 2 ^ (64 - s) := Int.pow_pos (by omega)
  have hPR : (2 : Int) ^ s * 2 ^ (64 - s) = 18446744073709551616 := by rw [← Int.pow_add, show s + (64 - s) = 64 from by omega]; rfl
  have hj := bits_join .u64 64 (by decide) u64_wraps s
  generalize (2 : Int) ^ s = P at *
  generalize (2 : Int) ^ (64 - s) = R at *
  have d := Int.mul_ediv_add_emod l R
  have m0 := Int.emod_nonneg l (show R ≠ 0 by omega)
  have m1 := Int.emod_lt_of_pos l hR
  have q0 := Int.ediv_nonneg hl.1 (show 0 ≤ R by omega)
  have q1 : l / R < P := Int.ediv_lt_of_lt_mul hR (by rw [hPR]; exact hl.2)
  have xP := Int.mul_nonneg hx (show 0 ≤ P by omega)
  have yP : (x + 1) * P ≤ y * P := Int.mul_le_mul_of_nonneg_right (by omega) (by omega)
  have yP' : (x + 1) * P = x * P + P := by rw [Int.add_mul, Int.one_mul]
  have mP : (l % R + 1) * P ≤ R * P := Int.mul_le_mul_of_nonneg_right (by omega) (by omega)
  have mP' : (l % R + 1) * P = l % R * P + P := by rw [Int.add_mul, Int.one_mul]
  have mP0 := Int.mul_nonneg m0 (show 0 ≤ P by omega)
  have hRP : R * P = 18446744073709551616 := by rw [Int.mul_comm]; exact hPR
  have eY : Y = y * P := by rw [← hY, u64_wrap (by omega) h2]
  have eU : U = x * P + l / R := by
    rw [← hU, u64_wrap xP (by omega)]
    exact hj (x * P) (l / R) xP (by exact Int.mul_emod_left _ _) (by simpa using (show x * P < 18446744073709551616 by omega)) q0 q1 (by simpa using (show l / R < 18446744073709551616 by omega))
  have e2 : l * P = l / R * 18446744073709551616 + l % R * P := by rw [← hRP]; grind
  have eL : L = l % R * P := by
    rw [← hL, IntKind.wrap_u64, e2]; omega
  refine ⟨eY, by omega, by omega, by omega, by omega, ?_⟩
  rw [eU, eL]; grind

theorem rest_of {U a1 a0 z Q Y n1 n2 n3 V : Int} (D : Dv U a1 a0 z Q) (hY : Y = a1 * 4294967296 + a0) (hY2 : Y < 18446744073709551616) (h1 : IntKind.u64.wrap (U * 4294967296) = n1) (h2 : IntKind.u64.wrap (n1 + z) = n2) (h3 : IntKind.u64.wrap (Q * Y) = n3) (h4 : IntKind.u64.wrap (n2 - n3) = V) :
    V = U * 4294967296 + z - Q * Y ∧ 0 ≤ V ∧ V < Y := by
  have d1 := D.Ql
  have d2 := D.Qh
  rw [Int.add_mul, Int.one_mul] at d2
  rw [← hY] at d1 d2
  rw [IntKind.wrap_u64] at h1 h2 h3 h4
  generalize Q * Y = P at *
  omega

theorem div_final {x l y Y U L b1 b0 Q Q2 V W : Int} {s : Nat} (hxy : x < y) (eY : Y = y * 2 ^ s) (eS : U * 18446744073709551616 + L = (x * 18446744073709551616 + l) * 2 ^ s) (fL : L = b1 * 4294967296 + b0) (hV : V = U * 4294967296 + b1 - Q * Y) (hW : W = V * 4294967296 + b0 - Q2 * Y) (h0 : 0 ≤ W) (h1 : W < Y) :
    x * B64 + l = (Q * 4294967296 + Q2) * y + W / 2 ^ s ∧ 0 ≤ W / 2 ^ s ∧ W / 2 ^ s < y := by
  have hP : (0 : Int) < 2 ^ s := Int.pow_pos (by omega)
  generalize (2 : Int) ^ s = P at *
  have e : W = (x * 18446744073709551616 + l - (Q * 4294967296 + Q2) * y) * P := by
    have e1 : W = U * 18446744073709551616 + L - (Q * 4294967296 + Q2) * Y := by rw [hW, hV, fL]; grind
    rw [e1, eS, eY]; grind
  have e3 : W / P = x * 18446744073709551616 + l - (Q * 4294967296 + Q2) * y := by rw [e, Int.mul_ediv_cancel _ (by omega)]
  refine ⟨by rw [e3]; unfold B64; omega, Int.ediv_nonneg h0 (by omega), Int.ediv_lt_of_lt_mul hP (by rw [← eY]; exact h1)⟩

set_option maxRecDepth 10000 in
set_option maxHeartbeats 2000000 in
theorem bits_Div64 (x l y : Int) (hx : 0 ≤ x) (hxy : x < y) (hl : 0 ≤ l ∧ l < B64) (hy : y < B64) (w : World) :
    Calls Try.prog 146 #[.int .u64 x, .int .u64 l, .int .u64 y] w fun e w' => ∃ q r : Int, e = .returned (.tuple #[.int .u64 q, .int .u64 r]) ∧ Hid (x * B64 + l = q * y + r) ∧ 0 ≤ r ∧ r < y ∧ ∃ n, w' = w.drewN n := by
  have HL := Lib.hid hl.2
  have HY := Lib.hid hy
  have hl0 := hl.1
  have hle : (y : Int) ≤ 18446744073709551615 := by unfold B64 at hy; omega
  clear hl hy
  by_cases hx0 : x = 0
  · subst hx0
    go_enter Try.func146, Try.ntmps146
    go_wp2
    go_quiet (fail)
    go_wp2
    go_ret2
    refine ⟨_, _, rfl, ?_, Int.emod_nonneg _ (by omega), Int.emod_lt_of_pos _ (by omega), _, rfl⟩
    show _ = _
    have h0 := Int.ediv_nonneg hl0 (show 0 ≤ y by omega)
    have h1 := Int.ediv_le_self y hl0
    have h2 := HL.out
    rw [Int.tdiv_eq_ediv_of_nonneg hl0, IntKind.wrap_u64, Int.emod_eq_of_lt h0 (by unfold B64 at h2; omega), Int.zero_mul, Int.zero_add, Int.mul_comm]
    exact (Int.mul_ediv_add_emod l y).symm
  · have hx1 : 0 < x := by omega
    clear hx0
    go_enter Try.func146, Try.ntmps146
    go_wp2_with fail
    refine (bits_LeadingZeros64 y ⟨by omega, HY.out⟩ _).mono ?_
    rintro e w' ⟨s, hs, rfl, h1, h2, rfl⟩
    obtain ⟨Y, hY⟩ : ∃ Y, IntKind.u64.wrap (y * 2 ^ s) = Y := ⟨_, rfl⟩
    obtain ⟨a1, ha1⟩ : ∃ z, Y / 4294967296 = z := ⟨_, rfl⟩
    obtain ⟨a0, ha0⟩ : ∃ z, bits .and .u64 Y 4294967295 = z := ⟨_, rfl⟩
    obtain ⟨U, hU⟩ : ∃ z, bits .or .u64 (IntKind.u64.wrap (x * 2 ^ s)) (l / 2 ^ (64 - s)) = z := ⟨_, rfl⟩
    obtain ⟨L, hL⟩ : ∃ z, IntKind.u64.wrap (l * 2 ^ s) = z := ⟨_, rfl⟩
    obtain ⟨b1, hb1⟩ : ∃ z, L / 4294967296 = z := ⟨_, rfl⟩
    obtain ⟨b0, hb0⟩ : ∃ z, bits .and .u64 L 4294967295 = z := ⟨_, rfl⟩
    obtain ⟨q, hq⟩ : ∃ z, IntKind.u64.wrap (U.tdiv a1) = z := ⟨_, rfl⟩
    obtain ⟨qa, hqa⟩ : ∃ z, IntKind.u64.wrap (q * a1) = z := ⟨_, rfl⟩
    obtain ⟨r, hr⟩ : ∃ z, IntKind.u64.wrap (U - qa) = z := ⟨_, rfl⟩
    have HP : Hid (Y = y * 2 ^ s ∧ U < Y ∧ U * 18446744073709551616 + L = (x * 18446744073709551616 + l) * 2 ^ s ∧ Y = a1 * 4294967296 + a0 ∧ L = b1 * 4294967296 + b0 ∧ 0 ≤ L ∧ 0 ≤ b0 ∧ b0 < 4294967296 ∧ Y < 18446744073709551616 ∧ 0 < a1 ∧ ∃ Q, Dv U a1 a0 b1 Q ∧ Gs U a1 a0 b1 Q q r) := by
      obtain ⟨eY, U0, UY, L0, L1, eS⟩ := div_parts hs hx hxy ⟨hl0, by have := HL.out; unfold B64 at this; omega⟩ (by have := h2.out; unfold B64 at this; omega) hY hU hL
      have hY2 : Y < 18446744073709551616 := by have := h2.out; unfold B64 at this; omega
      have hY1 : 9223372036854775808 ≤ Y := by have := h1.out; omega
      obtain ⟨fY, p1, p2, p3, p4⟩ := halves (by omega) hY2 ha1 ha0
      obtain ⟨fL, z1, z2, z3, z4⟩ := halves L0 L1 hb1 hb0
      have hD := Dv.of (U := U) (by omega) p2 p3 p4 z1 z2 U0 (by omega)
      exact ⟨eY, UY, eS, fY, fL, L0, z3, z4, hY2, by omega, _, hD, Gs.of hD (by omega) hq hqa hr⟩
    have a1p : 0 < a1 := by obtain ⟨_, _, _, _, _, _, _, _, _, h, _⟩ := HP.out; exact h
    have a1n : ¬ a1 = 0 := by omega
    go_upto_block 0 with (fail)
    obtain ⟨eY, UY, eS, fY, fL, L0, z3, z4, Y2, _, Q, hD, hG⟩ := HP.out
    have HX := Lib.hid (And.intro eY (And.intro UY (And.intro eS (And.intro fY (And.intro fL (And.intro L0 (And.intro z3 (And.intro z4 Y2))))))))
    clear eY UY eS fY fL L0 z3 z4 Y2 HP
    go_cut [15] (fun t wx => t = .int .u64 Q ∧ w = wx)
    case first =>
      go_wp2_with fail
      go_loop [15, 16] (fun t u => ∃ q r : Int, Gs U a1 a0 b1 Q q r ∧ t = .int .u64 q ∧ u = .int .u64 r) (fun t _ => (intOf t).toNat)
      case atStart => exact ⟨q, r, hG, rfl, rfl⟩
      case round =>
        clear hq hqa hr hG
        obtain ⟨q, r, hG, rfl, rfl⟩ := hrel
        obtain ⟨q1, hq1⟩ : ∃ z, IntKind.u64.wrap (q - 1) = z := ⟨_, rfl⟩
        obtain ⟨r1, hr1⟩ : ∃ z, IntKind.u64.wrap (r + a1) = z := ⟨_, rfl⟩
        obtain ⟨m1, hm1⟩ : ∃ z, IntKind.u64.wrap (q * a0) = z := ⟨_, rfl⟩
        obtain ⟨m2, hm2⟩ : ∃ z, IntKind.u64.wrap (4294967296 * r) = z := ⟨_, rfl⟩
        obtain ⟨m3, hm3⟩ : ∃ z, IntKind.u64.wrap (m2 + b1) = z := ⟨_, rfl⟩
        have HR := Lib.hid (Gs.round hD hG hq1 hr1 hm1 hm2 hm3)
        by_cases c1 : 4294967296 ≤ q
        · obtain ⟨k0, k1, k2, k3⟩ := HR.out.1 (.inl c1)
          have K2 := Lib.hid k2
          have K3 := Lib.hid k3
          clear k2 k3
          by_cases c2 : 4294967296 ≤ r1
          · go_wp2
            go_meet
            exact ⟨by rw [K3.out c2], rfl⟩
          · go_wp2
            exact ⟨⟨q1, r1, K2.out (by omega), rfl, rfl⟩, by simp [intOf]; omega⟩
        · have c1' : decide (4294967296 ≤ q) = false := by simp; omega
          by_cases c3 : m3 < m1
          · obtain ⟨k0, k1, k2, k3⟩ := HR.out.1 (.inr ⟨by omega, c3⟩)
            have K2 := Lib.hid k2
            have K3 := Lib.hid k3
            clear k2 k3
            by_cases c2 : 4294967296 ≤ r1
            · go_wp2
              go_meet
              exact ⟨by rw [K3.out c2], rfl⟩
            · go_wp2
              exact ⟨⟨q1, r1, K2.out (by omega), rfl, rfl⟩, by simp [intOf]; omega⟩
          · have HE := Lib.hid (HR.out.2 (by omega) (by omega))
            go_wp2
            go_meet
            exact ⟨by rw [HE.out], rfl⟩
    case rest =>
      obtain ⟨rfl, rfl⟩ := hcut
      clear hq hqa hr hG hY ha1 ha0 hU hL hb1 hb0
      obtain ⟨n1, hn1⟩ : ∃ z, IntKind.u64.wrap (U * 4294967296) = z := ⟨_, rfl⟩
      obtain ⟨n2, hn2⟩ : ∃ z, IntKind.u64.wrap (n1 + b1) = z := ⟨_, rfl⟩
      obtain ⟨n3, hn3⟩ : ∃ z, IntKind.u64.wrap (Q * Y) = z := ⟨_, rfl⟩
      obtain ⟨V, hV⟩ : ∃ z, IntKind.u64.wrap (n2 - n3) = z := ⟨_, rfl⟩
      obtain ⟨q2, hq2⟩ : ∃ z, IntKind.u64.wrap (V.tdiv a1) = z := ⟨_, rfl⟩
      obtain ⟨p2, hp2⟩ : ∃ z, IntKind.u64.wrap (q2 * a1) = z := ⟨_, rfl⟩
      obtain ⟨r2, hr2⟩ : ∃ z, IntKind.u64.wrap (V - p2) = z := ⟨_, rfl⟩
      go_upto_block 2 with (fail)
      have HV := Lib.hid (rest_of hD HX.out.2.2.2.1 HX.out.2.2.2.2.2.2.2.2 hn1 hn2 hn3 hV)
      have hD2 := Dv.of (U := V) (z := b0) hD.a1l hD.a1h hD.a0l hD.a0h HX.out.2.2.2.2.2.2.1 HX.out.2.2.2.2.2.2.2.1 HV.out.2.1 (by have := HV.out.2.2; have := HX.out.2.2.2.1; omega)
      generalize (V * 4294967296 + b0) / (a1 * 4294967296 + a0) = Q2 at hD2
      have hG := Gs.of hD2 (by have := HV.out.2.2; have := HX.out.2.2.2.2.2.2.2.2; omega) hq2 hp2 hr2
      clear hn1 hn2 hn3 hV hq2 hp2 hr2
      go_cut [18] (fun t wx => t = .int .u64 Q2 ∧ w = wx)
      case first =>
        go_wp2_with fail
        go_loop [16, 18] (fun u t => ∃ q r : Int, Gs V a1 a0 b0 Q2 q r ∧ t = .int .u64 q ∧ u = .int .u64 r) (fun _ t => (intOf t).toNat)
        case atStart => exact ⟨q2, r2, hG, rfl, rfl⟩
        case round =>
          clear hG
          obtain ⟨q, r, hG, rfl, rfl⟩ := hrel
          obtain ⟨q1, hq1⟩ : ∃ z, IntKind.u64.wrap (q - 1) = z := ⟨_, rfl⟩
          obtain ⟨r1, hr1⟩ : ∃ z, IntKind.u64.wrap (r + a1) = z := ⟨_, rfl⟩
          obtain ⟨m1, hm1⟩ : ∃ z, IntKind.u64.wrap (q * a0) = z := ⟨_, rfl⟩
          obtain ⟨m2, hm2⟩ : ∃ z, IntKind.u64.wrap (4294967296 * r) = z := ⟨_, rfl⟩
          obtain ⟨m3, hm3⟩ : ∃ z, IntKind.u64.wrap (m2 + b0) = z := ⟨_, rfl⟩
          have HR := Lib.hid (Gs.round hD2 hG hq1 hr1 hm1 hm2 hm3)
          by_cases c1 : 4294967296 ≤ q
          · obtain ⟨k0, k1, k2, k3⟩ := HR.out.1 (.inl c1)
            have K2 := Lib.hid k2
            have K3 := Lib.hid k3
            clear k2 k3
            by_cases c2 : 4294967296 ≤ r1
            · go_wp2
              go_meet
              exact ⟨by rw [K3.out c2], rfl⟩
            · go_wp2
              exact ⟨⟨q1, r1, K2.out (by omega), rfl, rfl⟩, by simp [intOf]; omega⟩
          · have c1' : decide (4294967296 ≤ q) = false := by simp; omega
            by_cases c3 : m3 < m1
            · obtain ⟨k0, k1, k2, k3⟩ := HR.out.1 (.inr ⟨by omega, c3⟩)
              have K2 := Lib.hid k2
              have K3 := Lib.hid k3
              clear k2 k3
              by_cases c2 : 4294967296 ≤ r1
              · go_wp2
                go_meet
                exact ⟨by rw [K3.out c2], rfl⟩
              · go_wp2
                exact ⟨⟨q1, r1, K2.out (by omega), rfl, rfl⟩, by simp [intOf]; omega⟩
            · have HE := Lib.hid (HR.out.2 (by omega) (by omega))
              go_wp2
              go_meet
              exact ⟨by rw [HE.out], rfl⟩
      case rest =>
        obtain ⟨rfl, rfl⟩ := hcut
        obtain ⟨f1, hf1⟩ : ∃ z, IntKind.u64.wrap (Q * 4294967296) = z := ⟨_, rfl⟩
        obtain ⟨f2, hf2⟩ : ∃ z, IntKind.u64.wrap (f1 + Q2) = z := ⟨_, rfl⟩
        obtain ⟨f3, hf3⟩ : ∃ z, IntKind.u64.wrap (V * 4294967296) = z := ⟨_, rfl⟩
        obtain ⟨f4, hf4⟩ : ∃ z, IntKind.u64.wrap (f3 + b0) = z := ⟨_, rfl⟩
        obtain ⟨f5, hf5⟩ : ∃ z, IntKind.u64.wrap (Q2 * Y) = z := ⟨_, rfl⟩
        obtain ⟨f6, hf6⟩ : ∃ z, IntKind.u64.wrap (f4 - f5) = z := ⟨_, rfl⟩
        go_wp2
        go_ret2
        have hW := rest_of hD2 HX.out.2.2.2.1 HX.out.2.2.2.2.2.2.2.2 hf3 hf4 hf5 hf6
        have hQ := hD.lt
        have hQ2 := hD2.lt
        have e2 : f2 = Q * 4294967296 + Q2 := by
          have := hD.Q0
          have := hD2.Q0
          rw [← hf2, ← hf1, u64_wrap (n := Q * 4294967296) (by omega) (by omega), u64_wrap (by omega) (by omega)]
        obtain ⟨eY, _, eS, _, fL, _⟩ := HX.out
        have hF := div_final hxy eY eS fL HV.out.1 hW.1 hW.2.1 hW.2.2
        refine ⟨_, _, rfl, ?_, hF.2.1, hF.2.2, 0, rfl⟩
        rw [e2]; exact hF.1
end Go.Proofs.Ytajahomfmcbmlaa.T
