/-
Division by one limb; shifts; copies.
-/
import Derived.Test.YtajahomfmcbmlaaDiv64
import Derived.Laws.BitsAllLaws
namespace Go.Proofs.Ytajahomfmcbmlaa.T
open Go.RowKit Go.Proofs.YtajahomfmcbmlaaW.PrintWords Go.Proofs.YtajahomfmcbmlaaW.PrintLast Go.Proofs.YtajahomfmcbmlaaW.PrintMore
set_option linter.unusedVariables false

theorem short_step {B x r q z y : Int} {s l : List Int} (k : Nat) (hk : k < l.length) (hs : k < s.length) (hx : l.getD k 0 = x) (hv : val B (l.drop (k + 1)) = val B (s.drop (k + 1)) * y + r) (he : r * B + x = q * y + z) :
    val B (l.drop k) = val B ((s.set k q).drop k) * y + z := by
  rw [val_drop_step B l k hk, hx, hv, val_drop_step B (s.set k q) k (by simp; omega), List.drop_set_of_lt (by omega)]
  have e : (s.set k q).getD k 0 = q := by simp [List.getD_eq_getElem?_getD, hs]
  rw [e]; grind

theorem div_range {x l y q r : Int} (hx : 0 ≤ x) (hxy : x < y) (hl : 0 ≤ l ∧ l < B64) (he : x * B64 + l = q * y + r) (h0 : 0 ≤ r) (h1 : r < y) : 0 ≤ q ∧ q < B64 := by
  have hy : 0 < y := by omega
  have a1 : x * B64 + l < y * B64 := by
    have := Int.mul_le_mul_of_nonneg_right (show x + 1 ≤ y by omega) (show (0 : Int) ≤ B64 by decide)
    rw [Int.add_mul, Int.one_mul] at this
    omega
  have a0 : 0 ≤ x * B64 + l := by have := Int.mul_nonneg hx (show (0 : Int) ≤ B64 by decide); omega
  constructor
  · rcases Int.lt_or_le q 0 with h | h
    · have := Int.mul_le_mul_of_nonneg_right (show q ≤ -1 by omega) (show 0 ≤ y by omega)
      omega
    · exact h
  · rcases Int.lt_or_le q B64 with h | h
    · exact h
    · have := Int.mul_le_mul_of_nonneg_right h (show 0 ≤ y by omega)
      rw [Int.mul_comm y] at a1
      omega

set_option maxRecDepth 10000 in
set_option maxHeartbeats 2000000 in
theorem nat_short (A : Option Addr) (c : Nat) (l : List Int) (y : Int) (w : World) (hl : InB B64 l) (hy0 : 0 < y) (hy : y < B64) (hN : l.length ≤ 1099511627776) (hA : Rl w A l) :
    Calls Try.prog 138 #[.slice A l.length c, .int .u64 y] w fun e w' => ∃ v, e = .returned (.tuple #[v, .int .u64 (val B64 l % y)]) ∧ Ol w' w.heap.size v (lm B64 (val B64 l / y).toNat) ∧ Below w.heap.size w w' := by
  have HY := Lib.hid hy
  clear hy
  go_enter Try.func138, Try.ntmps138
  go_wp2_with (at_make; refine wp_make w.heap.size rfl rfl _ _ rfl l.length rfl rfl (by omega) (Below.refl _ _) (Nat.le_refl _) ?_; intro v1 w1 hO hb)
  go_loopw [7, 15] (fun t i wr => ∃ (k : Nat) (s : List Int) (r : Int), k ≤ l.length ∧ Hid (s.length = l.length) ∧ InB B64 s ∧ 0 ≤ r ∧ r < y ∧ Hid (val B64 (l.drop (l.length - k)) = val B64 (s.drop (l.length - k)) * y + r) ∧ t = .int .u64 r ∧ i = .int .i64 k ∧ Ol wr w.heap.size v1 s ∧ Below w.heap.size w wr) (fun _ i _ => l.length - (intOf i).toNat)
  case atStart => exact ⟨0, _, 0, Nat.zero_le _, by simp [Hid], InB.rep (by decide) _, by omega, by omega, by simp [Hid], rfl, rfl, hO, hb⟩
  case round =>
    clear hO hb
    obtain ⟨k, s, r, hk, HS, hsB, hr0, hr1, HV, rfl, rfl, hO, hb⟩ := hrel
    by_cases hlt : k < l.length
    · obtain ⟨a1, x, rfl, hc1, e1, r1, q1⟩ := Rl.get (Kd.C_below hA hb) hl (l.length - 1 - k) (by omega)
      have hks : l.length - 1 - k < s.length := by rw [HS.out]; omega
      obtain ⟨g, cap, rfl, hg, hgl⟩ := Ol.shape hO (by omega)
      obtain ⟨hc3, hc4⟩ := Ol.cellAt hO (l.length - 1 - k) hks
      have hD := fun W => bits_Div64 r x y hr0 hr1 ⟨r1, q1.out⟩ HY.out W
      have HD := Lib.hid hD
      clear hD
      have g1 : 0 ≤ (l.length : Int) - 1 - k := by omega
      have g2 : (l.length : Int) - 1 - k < l.length := by omega
      have g3 : (l.length : Int) - 1 - k < s.length := by omega
      go_wp2_with (go_at_call 146; refine (HD.out _).mono ?_; rintro e w' ⟨q, z, rfl, hq, hz0, hz1, n, rfl⟩)
      have hqr := div_range hr0 hr1 ⟨r1, q1.out⟩ hq.out hz0 hz1
      refine ⟨⟨k + 1, _, z, by omega, by rw [List.length_set]; exact HS, hsB.set _ hqr, hz0, hz1, ?_, rfl, by go_num, Ol.put (Kd.R_drewN hO n) _ _, (pw_below_drewN hb n).setCell hg _⟩, by simp [intOf]; omega⟩
      rw [show l.length - (k + 1) = l.length - 1 - k from by omega]
      exact short_step _ (by omega) hks e1.out (by have := HV.out; rwa [show l.length - k = l.length - 1 - k + 1 from by omega] at this) hq.out
    · obtain rfl : k = l.length := by omega
      obtain ⟨A1, c1, rfl⟩ := Kd.R_slice hO
      have HF : Hid (val B64 l = val B64 s * y + r) := by have := HV.out; rw [Nat.sub_self] at this; exact this
      go_wp2_with (go_at_call 139; refine (nat_low' _ _ _ s w.heap.size _ rfl hsB hO).mono ?_; rintro e w' ⟨v, rfl, hv1, rfl⟩)
      go_ret2
      have e1 : val B64 l / y = val B64 s := by rw [HF.out, Int.add_comm, Int.add_mul_ediv_right _ _ (by omega), Int.ediv_eq_zero_of_lt hr0 hr1, Int.zero_add]
      have e2 : val B64 l % y = r := by rw [HF.out, Int.add_comm, Int.add_mul_emod_self_right, Int.emod_eq_of_lt hr0 hr1]
      exact ⟨_, by rw [e2]; rfl, by rw [e1]; exact hv1, hb⟩

theorem bits_or_comm {x y : Int} (hx : 0 ≤ x ∧ x < 18446744073709551616) (hy : 0 ≤ y ∧ y < 18446744073709551616) : bits .or .u64 x y = bits .or .u64 y x := by
  rw [u64_or x y hx.1 hx.2 hy.1 hy.2, u64_or y x hy.1 hy.2 hx.1 hx.2, Nat.or_comm]

theorem shl_limb {x z lo zz : Int} {n : Nat} (hn : n < 64) (hx : 0 ≤ x ∧ x < B64) (hz0 : 0 ≤ z) (hz : z < 2 ^ n) (hlo : IntKind.u64.wrap (x * 2 ^ n) = lo) (hzz : bits .or .u64 z lo = zz) :
    zz - z + B64 * (x / 2 / 2 ^ (63 - n)) = x * 2 ^ n ∧ (0 ≤ zz ∧ zz < B64) ∧ (0 ≤ x / 2 / 2 ^ (63 - n) ∧ x / 2 / 2 ^ (63 - n) < B64) ∧ x / 2 / 2 ^ (63 - n) < 2 ^ n := by
  have hP : (0 : Int) < 2 ^ n := Int.pow_pos (by omega)
  have hR : (0 : Int) < 2 ^ (63 - n) := Int.pow_pos (by omega)
  have hPR : (2 : Int) ^ n * (2 * 2 ^ (63 - n)) = 18446744073709551616 := by
    rw [← Int.mul_assoc, Int.mul_comm _ 2, Int.mul_assoc, ← Int.pow_add, show n + (63 - n) = 63 from by omega]; rfl
  have hj := bits_join .u64 64 (by decide) u64_wraps n
  have hP64 : (2 : Int) ^ n ≤ 9223372036854775808 := by
    have := pow_mono (B := 2) (by omega) (show n ≤ 63 by omega); simpa using this
  generalize (2 : Int) ^ n = P at *
  generalize (2 : Int) ^ (63 - n) = R at *
  rw [Int.ediv_ediv_of_nonneg (by omega)]
  unfold B64 at *
  have d := Int.mul_ediv_add_emod x (2 * R)
  have m0 := Int.emod_nonneg x (show 2 * R ≠ 0 by omega)
  have m1 := Int.emod_lt_of_pos x (show 0 < 2 * R by omega)
  have q0 := Int.ediv_nonneg hx.1 (show 0 ≤ 2 * R by omega)
  have q1 : x / (2 * R) < P := Int.ediv_lt_of_lt_mul (by omega) (by rw [hPR]; exact hx.2)
  generalize x / (2 * R) = h at *
  generalize x % (2 * R) = m at *
  have e2 : x * P = h * 18446744073709551616 + m * P := by rw [← hPR]; grind
  have mP : (m + 1) * P ≤ (2 * R) * P := Int.mul_le_mul_of_nonneg_right (by omega) (by omega)
  have mP' : (m + 1) * P = m * P + P := by rw [Int.add_mul, Int.one_mul]
  have hRP : (2 * R) * P = 18446744073709551616 := by rw [Int.mul_comm]; exact hPR
  have mP0 := Int.mul_nonneg m0 (show 0 ≤ P by omega)
  have el : lo = m * P := by rw [← hlo, IntKind.wrap_u64, e2]; omega
  have ez : zz = lo + z := by
    rw [← hzz, bits_or_comm (by omega) (by rw [el]; omega), el]
    exact hj (m * P) z mP0 (Int.mul_emod_left _ _) (by simpa using (show m * P < 18446744073709551616 by omega)) hz0 hz (by simpa using (show z < 18446744073709551616 by omega))
  refine ⟨by omega, by omega, by omega, q1⟩

theorem shl_step {x z zz h : Int} {n : Nat} {s l : List Int} (k : Nat) (hk : k < l.length) (hks : k + 1 < s.length) (hs : InB B64 s) (hx : l.getD k 0 = x) (hz : s.getD k 0 = z) (hZ : ∀ t, k < t → s.getD t 0 = 0) (hV : val B64 s = val B64 (l.take k) * 2 ^ n) (h1 : zz - z + B64 * h = x * 2 ^ n) (h2 : 0 ≤ zz ∧ zz < B64) (h3 : 0 ≤ h ∧ h < B64) (h4 : h < 2 ^ n) :
    InB B64 ((s.set k zz).set (k + 1) h) ∧ ((s.set k zz).set (k + 1) h).getD (k + 1) 0 < 2 ^ n ∧ (∀ t, k + 1 < t → ((s.set k zz).set (k + 1) h).getD t 0 = 0) ∧ val B64 ((s.set k zz).set (k + 1) h) = val B64 (l.take (k + 1)) * 2 ^ n := by
  refine ⟨(hs.set _ h2).set _ h3, ?_, fun t ht => ?_, ?_⟩
  · simp [List.getD_eq_getElem?_getD, hks]; exact h4
  · rw [getD_set_ne (by omega), getD_set_ne (by omega)]; exact hZ t (by omega)
  · rw [val_set _ _ _ _ (by simp; omega), val_set _ _ _ _ (by omega), getD_set_ne (by omega), hZ (k + 1) (by omega), hz, val_take_succ _ _ _ hk, hx, hV, Int.pow_succ]
    grind

set_option maxRecDepth 10000 in
set_option maxHeartbeats 2000000 in
theorem nat_shl (A : Option Addr) (c : Nat) (l : List Int) (n : Nat) (w : World) (hl : InB B64 l) (hn : n < 64) (hN : l.length ≤ 1099511627776) (hA : Rl w A l) :
    Calls Try.prog 141 #[.slice A l.length c, .int .i64 n] w fun e w' => ∃ v, e = .returned v ∧ Ol w' w.heap.size v (lm B64 (val B64 l * 2 ^ n).toNat) ∧ Below w.heap.size w w' := by
  have n1 : 0 ≤ (n : Int) / 64 := by omega
  have n2 : (n : Int) / 64 = 0 := by omega
  have n3 : (n : Int) % 64 = n := by omega
  by_cases h0 : l.length = 0
  · obtain rfl := List.length_eq_zero_iff.1 h0
    clear h0
    go_enter Try.func141, Try.ntmps141
    go_wp2
    go_ret
    exact ⟨_, rfl, by simp only [val_nil, Int.zero_mul, Int.toNat_zero, lm_zero]; exact Kd.R_nil _ _ _ _ _, Below.refl _ _⟩
  · have h1 : ((l.length : Int) == 0) = false := by simp; simpa using h0
    have h2 : 0 < l.length := by omega
    clear h0
    go_enter Try.func141, Try.ntmps141
    go_wp2_with (at_make; refine wp_make w.heap.size rfl rfl _ _ rfl (l.length + 1) rfl rfl (by omega) (Below.refl _ _) (Nat.le_refl _) ?_; intro v1 w1 hO hb)
    go_loopw [24] (fun i wr => ∃ (k : Nat) (s : List Int), k ≤ l.length ∧ Hid (s.length = l.length + 1) ∧ InB B64 s ∧ Hid (s.getD k 0 < 2 ^ n) ∧ Hid (∀ t, k < t → s.getD t 0 = 0) ∧ Hid (val B64 s = val B64 (l.take k) * 2 ^ n) ∧ i = .int .i64 k ∧ Ol wr w.heap.size v1 s ∧ Below w.heap.size w wr) (fun i _ => l.length - (intOf i).toNat)
    case atStart => exact ⟨0, _, Nat.zero_le _, by simp [Hid], InB.rep (by decide) _, by show _ < _; rw [getD_rep]; exact Int.pow_pos (by omega), fun t _ => getD_rep _ _, by simp [Hid, val_rep], rfl, hO, hb⟩
    case round =>
      clear hO hb
      obtain ⟨k, s, hk, HS, hsB, HL, HZ, HV, rfl, hO, hb⟩ := hrel
      by_cases hlt : k < l.length
      · obtain ⟨a1, x, rfl, hc1, e1, r1, q1⟩ := Rl.get (Kd.C_below hA hb) hl k hlt
        have hks : k + 1 < s.length := by rw [HS.out]; omega
        obtain ⟨g, cap, rfl, hg, hgl⟩ := Ol.shape hO (by omega)
        obtain ⟨hc3, hc4⟩ := Ol.cellAt hO k (by omega)
        obtain ⟨hc5, hc6⟩ := Ol.cellAt hO (k + 1) (by omega)
        have hz0 := hsB.getD (by decide) k
        obtain ⟨z, hz⟩ : ∃ z, s.getD k 0 = z := ⟨_, rfl⟩
        rw [hz] at hc3 hz0
        have HZk := Lib.hid hz
        have HZ0 := Lib.hid hz0
        clear hz hz0
        obtain ⟨lo, hlo⟩ : ∃ z, IntKind.u64.wrap (x * 2 ^ n) = z := ⟨_, rfl⟩
        obtain ⟨zz, hzz⟩ : ∃ y, bits .or .u64 z lo = y := ⟨_, rfl⟩
        have HS2 := Lib.hid (shl_limb hn ⟨r1, q1.out⟩ HZ0.out.1 (by rw [← HZk.out]; exact HL.out) hlo hzz)
        have HS3 := Lib.hid (shl_step k hlt hks hsB e1.out HZk.out HZ.out HV.out HS2.out.1 HS2.out.2.1 HS2.out.2.2.1 HS2.out.2.2.2)
        go_wp2
        exact ⟨⟨k + 1, _, by omega, by rw [List.length_set, List.length_set]; exact HS, HS3.out.1, Lib.hid HS3.out.2.1, Lib.hid HS3.out.2.2.1, Lib.hid HS3.out.2.2.2, by go_num, (hO.put k zz).put (k + 1) _, (hb.setCell hg _).setCell hg _⟩, by simp [intOf]; omega⟩
      · obtain rfl : k = l.length := by omega
        obtain ⟨A1, c1, rfl⟩ := Kd.R_slice hO
        have HF : Hid (val B64 s = val B64 l * 2 ^ n) := by have := HV.out; rw [List.take_length] at this; exact this
        go_wp2_with (go_at_call 139; refine (nat_low' _ _ _ s w.heap.size _ rfl hsB hO).mono ?_; rintro e w' ⟨v, rfl, hv1, rfl⟩)
        go_ret
        exact ⟨_, rfl, by rw [← HF.out]; exact hv1, hb⟩
end Go.Proofs.Ytajahomfmcbmlaa.T
