/-
Plain facts on a long division (no program in sight).
-/
import Derived.Test.YtajahomfmcbmlaaNat8
namespace Go.Proofs.Ytajahomfmcbmlaa.T
open Go.RowKit Go.Proofs.YtajahomfmcbmlaaW.PrintWords Go.Proofs.YtajahomfmcbmlaaW.PrintLast Go.Proofs.YtajahomfmcbmlaaW.PrintMore
set_option linter.unusedVariables false

theorem Bpos (n : Nat) : (0 : Int) < B64 ^ n := Int.pow_pos (by decide)
theorem valB_nonneg {l : List Int} (h : InB B64 l) : 0 ≤ val B64 l := val_nonneg (by decide) h

/-- A list below B^n has only noughts from place n on. -/
theorem take_of_small {l : List Int} {n : Nat} (h : InB B64 l) (hn : n ≤ l.length) (hv : val B64 l < B64 ^ n) : val B64 (l.take n) = val B64 l := by
  have a := val_take_drop B64 l n hn
  have b := valB_nonneg (h.drop n)
  have c := valB_nonneg (h.take n)
  rcases Int.lt_or_le 0 (val B64 (l.drop n)) with h' | h'
  · have := Int.mul_le_mul_of_nonneg_left (show 1 ≤ val B64 (l.drop n) by omega) (Int.le_of_lt (Bpos n))
    rw [Int.mul_one] at this
    omega
  · have e : val B64 (l.drop n) = 0 := by omega
    rw [e, Int.mul_zero] at a; omega

theorem val_splice {s d : List Int} {j : Nat} (hj : j + d.length ≤ s.length) : val B64 (splice s j d) = val B64 s + B64 ^ j * (val B64 d - val B64 ((s.drop j).take d.length)) := by
  have a := val_take_drop B64 s j (by omega)
  have b := val_take_drop B64 (s.drop j) d.length (by simp; omega)
  unfold splice
  rw [val_append, val_append, List.length_take, Nat.min_eq_left (by omega), a, b, List.drop_drop]
  grind

theorem restL_val {r n : Nat} : val B64 (restL r n) = r := by unfold restL; rw [val_append, val_rep, valL]; simp
theorem restL_len {r n : Nat} (h : (Lm r).length ≤ n) : (restL r n).length = n := by unfold restL; simp; omega
theorem restL_in (r n : Nat) : InB B64 (restL r n) := (inL r).append (InB.rep (by decide) _)

theorem InB.splice {s d : List Int} (j : Nat) (hs : InB B64 s) (hd : InB B64 d) : InB B64 (splice s j d) := by
  unfold Go.splice
  exact (hs.take j).append (hd.append (hs.drop _))

/-- What holds of u and q with J limbs of the quotient still to come. -/
structure Ld (U V n N J : Nat) (u q : List Int) : Prop where
  uB : InB B64 u
  qB : InB B64 q
  ul : u.length = N
  ql : q.length = N - n
  jl : J + n ≤ N
  small : val B64 (u.drop J) < V
  low : ∀ t, t < J → q.getD t 0 = 0
  sum : (U : Int) = val B64 u + V * val B64 q

/-- One more limb. -/
theorem Ld.step {U V n N J : Nat} {u q : List Int} (L : Ld U V n N (J + 1) u q) (hV : (Lm V).length = n) (hn : 1 ≤ n) :
    let s := val B64 ((u.drop J).take (n + 1))
    0 ≤ s / V ∧ s / V < B64 ∧ Ld U V n N J (splice u J (restL (s % V).toNat (n + 1))) (q.set J (s / V)) := by
  intro s
  have hV0 : 0 < (V : Int) := by
    have := val_pos (by decide) (inL V) (formL V) (fun e => by rw [e] at hV; simp at hV; omega)
    rw [valL] at this; exact this
  have hVn : (V : Int) < B64 ^ n := by
    have := val_lt (by decide) (inL V)
    rw [valL, hV] at this; exact this
  have j1 := L.jl
  have e1 : val B64 (u.drop J) = u.getD J 0 + B64 * val B64 (u.drop (J + 1)) := val_drop_step _ _ _ (by rw [L.ul]; omega)
  have x0 := L.uB.getD (by decide) J
  have d0 := valB_nonneg (L.uB.drop (J + 1))
  have hsV : val B64 (u.drop J) < V * B64 := by
    have := Int.mul_le_mul_of_nonneg_left (show val B64 (u.drop (J + 1)) + 1 ≤ V by have := L.small; omega) (show (0 : Int) ≤ B64 by decide)
    rw [Int.mul_add, Int.mul_one] at this
    rw [Int.mul_comm (V : Int)]
    omega
  have hs : s = val B64 (u.drop J) := by
    refine take_of_small (L.uB.drop J) (by simp [L.ul]; omega) ?_
    rw [Int.pow_succ]
    have := Int.mul_le_mul_of_nonneg_right (show (V : Int) ≤ B64 ^ n by omega) (show (0 : Int) ≤ B64 by decide)
    omega
  have s0 : 0 ≤ s := valB_nonneg ((L.uB.drop J).take _)
  have q0 : 0 ≤ s / V := Int.ediv_nonneg s0 (by omega)
  have q1 : s / V < B64 := Int.ediv_lt_of_lt_mul hV0 (by rw [Int.mul_comm]; omega)
  have r0 := Int.emod_nonneg s (show (V : Int) ≠ 0 by omega)
  have r1 := Int.emod_lt_of_pos s hV0
  have rl : (Lm (s % V).toNat).length ≤ n + 1 := by
    have := len_le_of_le (a := V) (b := (s % V).toNat) (by omega)
    omega
  have hl : J + (restL (s % V).toNat (n + 1)).length ≤ u.length := by rw [restL_len rl, L.ul]; omega
  have hJq : J < q.length := by rw [L.ql]; omega
  refine ⟨q0, q1, L.uB.splice _ (restL_in _ _), L.qB.set _ ⟨q0, q1⟩, by rw [length_splice _ _ _ hl, L.ul], by rw [List.length_set, L.ql], by omega, ?_, ?_, ?_⟩
  · have e2 : val B64 ((splice u J (restL (s % V).toNat (n + 1))).drop J) = val B64 (restL (s % V).toNat (n + 1)) + B64 ^ (n + 1) * val B64 (u.drop (J + (n + 1))) := by
      unfold splice
      rw [List.drop_append, List.drop_of_length_le (by simp; omega), List.nil_append, List.length_take, Nat.min_eq_left (by omega), Nat.sub_self, List.drop_zero, val_append, restL_len rl]
    have e3 := val_take_drop B64 (u.drop J) (n + 1) (by simp [L.ul]; omega)
    rw [List.drop_drop] at e3
    rw [e2, restL_val, Int.toNat_of_nonneg r0]
    have : B64 ^ (n + 1) * val B64 (u.drop (J + (n + 1))) = 0 := by
      have : s = val B64 ((u.drop J).take (n + 1)) := rfl
      omega
    omega
  · intro t ht
    rw [getD_set_ne (by omega)]; exact L.low t (by omega)
  · rw [val_splice hl, restL_val, restL_len rl, val_set _ _ _ _ hJq, L.low J (by omega), Int.toNat_of_nonneg r0]
    have e4 := Int.mul_ediv_add_emod s V
    have e5 := L.sum
    rw [e5]
    show _ = _ + B64 ^ J * (s % V - s) + V * (val B64 q + B64 ^ J * (s / V - 0))
    generalize s / V = a at *
    generalize s % V = b at *
    have : s = V * a + b := by omega
    rw [this]; grind

/-- The end of it. -/
theorem Ld.fin {a b n N k : Nat} {u q : List Int} (L : Ld (a * 2 ^ k) (b * 2 ^ k) n N 0 u q) : val B64 q = ((a / b : Nat) : Int) ∧ val B64 u = ((a % b * 2 ^ k : Nat) : Int) := by
  have s1 := L.sum
  have s2 := L.small
  have s3 := valB_nonneg L.uB
  have s4 := valB_nonneg L.qB
  rw [List.drop_zero] at s2
  obtain ⟨x, hx⟩ := Int.eq_ofNat_of_zero_le s3
  obtain ⟨y, hy⟩ := Int.eq_ofNat_of_zero_le s4
  rw [hx, hy] at s1
  rw [hx] at s2
  have hP : 0 < 2 ^ k := Nat.two_pow_pos k
  have t1 : a * 2 ^ k = x + b * 2 ^ k * y := by exact_mod_cast s1
  have t2 : x < b * 2 ^ k := by exact_mod_cast s2
  have t3 : x % 2 ^ k = 0 := by
    have : x = 2 ^ k * a - 2 ^ k * (b * y) := by
      have h1 : b * 2 ^ k * y = 2 ^ k * (b * y) := by rw [Nat.mul_comm b, Nat.mul_assoc]
      have h2 : a * 2 ^ k = 2 ^ k * a := Nat.mul_comm _ _
      omega
    rw [this, ← Nat.mul_sub]; exact Nat.mul_mod_right _ _
  obtain ⟨z, hz⟩ : ∃ z, x = 2 ^ k * z := ⟨x / 2 ^ k, by have := Nat.div_add_mod x (2 ^ k); omega⟩
  have t4 : a = z + b * y := by
    have h1 : b * 2 ^ k * y = 2 ^ k * (b * y) := by rw [Nat.mul_comm b, Nat.mul_assoc]
    have : 2 ^ k * a = 2 ^ k * (z + b * y) := by rw [Nat.mul_add, ← hz, ← h1, Nat.mul_comm]; exact t1
    exact Nat.eq_of_mul_eq_mul_left hP this
  have t5 : z < b := by
    have : 2 ^ k * z < 2 ^ k * b := by rw [← hz, Nat.mul_comm _ b]; exact t2
    exact Nat.lt_of_mul_lt_mul_left this
  have q1 : a / b = y := by rw [t4, Nat.add_mul_div_left _ _ (by omega), Nat.div_eq_of_lt t5, Nat.zero_add]
  have q2 : a % b = z := by rw [t4, Nat.add_mul_mod_self_left, Nat.mod_eq_of_lt t5]
  rw [hx, hy, q1, q2, hz, Nat.mul_comm]
  exact ⟨rfl, rfl⟩

/-- How it begins. -/
theorem Ld.init {a b k : Nat} {t : Int} (hb : (Lm b).getD ((Lm b).length - 1) 0 = t) (hb1 : 1 ≤ (Lm b).length) (h1 : 9223372036854775808 ≤ t * 2 ^ k) (h2 : t * 2 ^ k < B64) (hk : k < 64) (hab : b ≤ a) :
    (Lm (b * 2 ^ k)).length = (Lm b).length ∧ (Lm (a * 2 ^ k)).length ≤ (Lm a).length + 1 ∧
      Ld (a * 2 ^ k) (b * 2 ^ k) (Lm b).length ((Lm a).length + 1) ((Lm a).length + 1 - (Lm b).length) (restL (a * 2 ^ k) ((Lm a).length + 1)) (List.replicate ((Lm a).length + 1 - (Lm b).length) 0) := by
  have hlen := len_le_of_le hab
  have hP : (0 : Int) < 2 ^ k := Int.pow_pos (by omega)
  have hP2 : (2 : Int) ^ k ≤ 9223372036854775808 := by
    have := pow_mono (B := 2) (by omega) (show k ≤ 63 by omega); simpa using this
  have eP : ((2 ^ k : Nat) : Int) = 2 ^ k := by simp
  have v1 := val_top1 B64 (Lm b) _ rfl hb1
  rw [valL, hb] at v1
  have v2 := val_lt (by decide) ((inL b).take ((Lm b).length - 1))
  rw [List.length_take, Nat.min_eq_left (by omega)] at v2
  have v3 := valB_nonneg ((inL b).take ((Lm b).length - 1))
  have hW : (0 : Int) < B64 ^ ((Lm b).length - 1) := Int.pow_pos (by decide)
  have eB : (B64 : Int) ^ (Lm b).length = B64 ^ ((Lm b).length - 1) * B64 := by rw [← Int.pow_succ]; congr 1; omega
  have lb : (B64 : Int) ^ ((Lm b).length - 1) * 9223372036854775808 ≤ ((b * 2 ^ k : Nat) : Int) := by
    rw [Int.natCast_mul, eP, v1]
    have := Int.mul_le_mul_of_nonneg_left h1 (Int.le_of_lt hW)
    have e : (val B64 ((Lm b).take ((Lm b).length - 1)) + B64 ^ ((Lm b).length - 1) * t) * 2 ^ k = val B64 ((Lm b).take ((Lm b).length - 1)) * 2 ^ k + B64 ^ ((Lm b).length - 1) * (t * 2 ^ k) := by grind
    have := Int.mul_nonneg v3 (Int.le_of_lt hP)
    omega
  have lu : ((b * 2 ^ k : Nat) : Int) < B64 ^ (Lm b).length := by
    rw [Int.natCast_mul, eP, v1, eB]
    have d1 : (t + 1) * 2 ^ k ≤ B64 := by
      -- a multiple of 2^k that is above t 2^k and B64 is one
      have e1 : (B64 : Int) = 2 ^ (64 - k) * 2 ^ k := by rw [← Int.pow_add, show 64 - k + k = 64 from by omega]; rfl
      rw [e1] at h2 ⊢
      have : t < 2 ^ (64 - k) := Int.lt_of_mul_lt_mul_right h2 (Int.le_of_lt hP)
      exact Int.mul_le_mul_of_nonneg_right (by omega) (Int.le_of_lt hP)
    have d2 := Int.mul_le_mul_of_nonneg_left d1 (Int.le_of_lt hW)
    have d3 := Int.mul_le_mul_of_nonneg_right (show val B64 ((Lm b).take ((Lm b).length - 1)) + 1 ≤ B64 ^ ((Lm b).length - 1) by omega) (Int.le_of_lt hP)
    have e : (val B64 ((Lm b).take ((Lm b).length - 1)) + B64 ^ ((Lm b).length - 1) * t) * 2 ^ k = val B64 ((Lm b).take ((Lm b).length - 1)) * 2 ^ k + B64 ^ ((Lm b).length - 1) * (t * 2 ^ k) := by grind
    rw [Int.add_mul, Int.one_mul] at d3
    have e2 : (B64 : Int) ^ ((Lm b).length - 1) * ((t + 1) * 2 ^ k) = B64 ^ ((Lm b).length - 1) * (t * 2 ^ k) + B64 ^ ((Lm b).length - 1) * 2 ^ k := by grind
    omega
  have nl : (Lm (b * 2 ^ k)).length = (Lm b).length := by
    have u1 : (Lm (b * 2 ^ k)).length ≤ (Lm b).length := lm_len_le two_le_B64 _ _ (by exact_mod_cast lu)
    rcases Nat.lt_or_ge (Lm (b * 2 ^ k)).length (Lm b).length with h | h
    · have h3 := val_lt (by decide) (inL (b * 2 ^ k))
      rw [valL] at h3
      have h4 : (B64 : Int) ^ (Lm (b * 2 ^ k)).length ≤ B64 ^ ((Lm b).length - 1) := pow_mono (by decide) (by omega)
      omega
    · omega
  have al := val_lt (by decide) (inL a)
  rw [valL] at al
  have au : ((a * 2 ^ k : Nat) : Int) < B64 ^ (Lm a).length * 9223372036854775808 := by
    rw [Int.natCast_mul, eP]
    have := Int.mul_le_mul_of_nonneg_right (show (a : Int) + 1 ≤ B64 ^ (Lm a).length by omega) (Int.le_of_lt hP)
    rw [Int.add_mul, Int.one_mul] at this
    have := Int.mul_le_mul_of_nonneg_left hP2 (Int.le_of_lt (Bpos (Lm a).length))
    omega
  have alen : (Lm (a * 2 ^ k)).length ≤ (Lm a).length + 1 := by
    refine lm_len_le two_le_B64 _ _ ?_
    have : ((a * 2 ^ k : Nat) : Int) < B64 ^ ((Lm a).length + 1) := by
      rw [Int.pow_succ]
      have := Int.mul_le_mul_of_nonneg_left (show (9223372036854775808 : Int) ≤ B64 by decide) (Int.le_of_lt (Bpos (Lm a).length))
      omega
    exact_mod_cast this
  refine ⟨nl, alen, restL_in _ _, InB.rep (by decide) _, restL_len alen, by simp, by omega, ?_, fun t _ => getD_rep _ _, by rw [restL_val, val_rep]; simp⟩
  have e1 := val_take_drop B64 (restL (a * 2 ^ k) ((Lm a).length + 1)) ((Lm a).length + 1 - (Lm b).length) (by rw [restL_len alen]; omega)
  have e2 := valB_nonneg ((restL_in (a * 2 ^ k) ((Lm a).length + 1)).take ((Lm a).length + 1 - (Lm b).length))
  rw [restL_val] at e1
  have hD : (0 : Int) < B64 ^ ((Lm a).length + 1 - (Lm b).length) := Int.pow_pos (by decide)
  have e3 : (B64 : Int) ^ (Lm a).length = B64 ^ ((Lm a).length + 1 - (Lm b).length) * B64 ^ ((Lm b).length - 1) := by rw [← Int.pow_add]; congr 1; omega
  rw [e3] at au
  have : B64 ^ ((Lm a).length + 1 - (Lm b).length) * val B64 ((restL (a * 2 ^ k) ((Lm a).length + 1)).drop ((Lm a).length + 1 - (Lm b).length)) < B64 ^ ((Lm a).length + 1 - (Lm b).length) * (B64 ^ ((Lm b).length - 1) * 9223372036854775808) := by rw [← Int.mul_assoc]; omega
  have := Int.lt_of_mul_lt_mul_left this (Int.le_of_lt hD)
  omega

/-- The shift to the right, i limbs done. -/
structure Sr (X k m : Nat) (r s : List Int) (i : Nat) : Prop where
  sB : InB B64 s
  sl : s.length = m
  rest : s.drop i = r.drop i
  sum : (X : Int) = val B64 (s.take i) + B64 ^ i * (val B64 (r.drop i) / 2 ^ k)

theorem pow64 {k : Nat} (hk : k < 64) : (2 : Int) ^ (64 - k) * 2 ^ k = 18446744073709551616 := by rw [← Int.pow_add, show 64 - k + k = 64 from by omega]; rfl

theorem Sr.start {X k m : Nat} (h : (Lm (X * 2 ^ k)).length = m) : Sr X k m (Lm (X * 2 ^ k)) (Lm (X * 2 ^ k)) 0 := by
  refine ⟨inL _, h, rfl, ?_⟩
  have hP : (0 : Int) < 2 ^ k := Int.pow_pos (by omega)
  rw [List.take_zero, val_nil, List.drop_zero, valL, Int.natCast_mul, Int.pow_zero, Int.one_mul, Int.zero_add]
  have e : ((2 ^ k : Nat) : Int) = 2 ^ k := by simp
  rw [e, Int.mul_ediv_cancel _ (by omega)]
theorem Sr.fin {X k m : Nat} {r s : List Int} (S : Sr X k m r s m) (hr : r.length = m) : val B64 s = X := by
  have := S.sum
  rw [List.take_of_length_le (by rw [S.sl]; exact Nat.le_refl _), List.drop_of_length_le (by omega), val_nil] at this
  simpa using this.symm

/-- One limb out of two. -/
theorem shr_limb {x y a b c z : Int} {k : Nat} (hk : k < 64) (hx : 0 ≤ x ∧ x < B64) (hy : 0 ≤ y ∧ y < B64) (ha : x / 2 ^ k = a) (hb : IntKind.u64.wrap (y * 2) = b) (hc : IntKind.u64.wrap (b * 2 ^ (63 - k)) = c) (hz : bits .or .u64 a c = z) :
    z = x / 2 ^ k + 2 ^ (64 - k) * (y % 2 ^ k) ∧ 0 ≤ z ∧ z < B64 := by
  have hP : (0 : Int) < 2 ^ k := Int.pow_pos (by omega)
  have hR : (0 : Int) < 2 ^ (64 - k) := Int.pow_pos (by omega)
  have hRP := pow64 hk
  have hR2 : (2 : Int) ^ (64 - k) = 2 * 2 ^ (63 - k) := by rw [show 64 - k = 63 - k + 1 from by omega, Int.pow_succ, Int.mul_comm]
  have hj := bits_join .u64 64 (by decide) u64_wraps (64 - k)
  have hR64 : (2 : Int) ^ (64 - k) ≤ 18446744073709551616 := by
    have := pow_mono (B := 2) (by omega) (show 64 - k ≤ 64 by omega); simpa using this
  unfold B64 at hx hy ⊢
  have a0 : 0 ≤ x / 2 ^ k := Int.ediv_nonneg hx.1 (by omega)
  have a1 : x / 2 ^ k < 2 ^ (64 - k) := Int.ediv_lt_of_lt_mul hP (by rw [hRP]; exact hx.2)
  have d := Int.mul_ediv_add_emod y (2 ^ k)
  have m0 := Int.emod_nonneg y (show (2 : Int) ^ k ≠ 0 by omega)
  have m1 := Int.emod_lt_of_pos y hP
  have c0 : c = 2 ^ (64 - k) * (y % 2 ^ k) := by
    have e1 : b * 2 ^ (63 - k) = 2 ^ (64 - k) * y - 18446744073709551616 * (y * 2 / 18446744073709551616 * 2 ^ (63 - k)) := by
      have : b = y * 2 - 18446744073709551616 * (y * 2 / 18446744073709551616) := by rw [← hb, IntKind.wrap_u64]; omega
      rw [this, hR2]; grind
    have e2 : 2 ^ (64 - k) * y = 18446744073709551616 * (y / 2 ^ k) + 2 ^ (64 - k) * (y % 2 ^ k) := by
      rw [← hRP]; conv => lhs; rw [← d]
      grind
    have e3 : 2 ^ (64 - k) * (y % 2 ^ k) < 18446744073709551616 := by
      rw [← hRP]; exact Int.mul_lt_mul_of_pos_left m1 hR
    have e4 := Int.mul_nonneg (Int.le_of_lt hR) m0
    rw [← hc, IntKind.wrap_u64, e1, e2]; omega
  have c1 := Int.mul_nonneg (Int.le_of_lt hR) m0
  have c2 : 2 ^ (64 - k) * (y % 2 ^ k) ≤ 2 ^ (64 - k) * (2 ^ k - 1) := Int.mul_le_mul_of_nonneg_left (by omega) (Int.le_of_lt hR)
  rw [Int.mul_sub, Int.mul_one, hRP] at c2
  have hz2 : z = c + a := by
    rw [← hz, bits_or_comm (by omega) (by omega), c0, ← ha]
    exact hj _ _ c1 (Int.mul_emod_right _ _) (by simpa using (show 2 ^ (64 - k) * (y % 2 ^ k) < 18446744073709551616 by omega)) a0 a1 (by simpa using (show x / 2 ^ k < 18446744073709551616 by omega))
  rw [hz2, c0, ← ha]
  omega

theorem Sr.step {X k m : Nat} {r s : List Int} {i : Nat} (S : Sr X k m r s i) (hk : k < 64) (hr : r.length = m) (hi : i < m) (z : Int) (hz : z = r.getD i 0 / 2 ^ k + 2 ^ (64 - k) * (r.getD (i + 1) 0 % 2 ^ k)) (h0 : 0 ≤ z ∧ z < B64) : Sr X k m r (s.set i z) (i + 1) := by
  refine ⟨S.sB.set _ h0, by rw [List.length_set, S.sl], ?_, ?_⟩
  · rw [List.drop_set_of_lt (by omega), ← List.drop_drop, ← List.drop_drop, S.rest]
  · have hP : (0 : Int) < 2 ^ k := Int.pow_pos (by omega)
    have hRP := pow64 hk
    rw [val_take_succ _ _ _ (by rw [List.length_set, S.sl]; exact hi), List.take_set_of_le (Nat.le_refl _)]
    have e : (s.set i z).getD i 0 = z := by simp [List.getD_eq_getElem?_getD, S.sl, hi]
    rw [e, S.sum, val_drop_step B64 r i (by omega)]
    have hD : val B64 (r.drop (i + 1)) % 2 ^ k = r.getD (i + 1) 0 % 2 ^ k := by
      rcases Nat.lt_or_ge (i + 1) r.length with h | h
      · rw [val_drop_step B64 r (i + 1) h]
        have : (B64 : Int) = 2 ^ k * 2 ^ (64 - k) := by rw [Int.mul_comm, hRP]; rfl
        rw [this, Int.mul_assoc, Int.add_mul_emod_self_left]
      · rw [List.drop_of_length_le h, val_nil, List.getD_eq_getElem?_getD, List.getElem?_eq_none h]; rfl
    have hB : (B64 : Int) = 2 ^ (64 - k) * 2 ^ k := by rw [hRP]; rfl
    have d := Int.mul_ediv_add_emod (val B64 (r.drop (i + 1))) (2 ^ k)
    rw [hD] at d
    generalize val B64 (r.drop (i + 1)) = D at *
    have e2 : (r.getD i 0 + B64 * D) / 2 ^ k = r.getD i 0 / 2 ^ k + 2 ^ (64 - k) * D := by
      have : r.getD i 0 + B64 * D = r.getD i 0 + 2 ^ k * (2 ^ (64 - k) * D) := by rw [hB]; grind
      rw [this, Int.add_mul_ediv_left _ _ (by omega)]
    rw [e2, hz, Int.pow_succ]
    have e3 : 2 ^ (64 - k) * D = B64 * (D / 2 ^ k) + 2 ^ (64 - k) * (r.getD (i + 1) 0 % 2 ^ k) := by rw [hB]; conv => lhs; rw [← d]
                                                                                                     grind
    rw [e3]; grind
end Go.Proofs.Ytajahomfmcbmlaa.T
