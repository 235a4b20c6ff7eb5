/-
The product of limbs.
-/
import Derived.Test.YtajahomfmcbmlaaNat2
namespace Go.Proofs.Ytajahomfmcbmlaa.T
open Go.RowKit Go.Proofs.YtajahomfmcbmlaaW.PrintWords Go.Proofs.YtajahomfmcbmlaaW.PrintLast Go.Proofs.YtajahomfmcbmlaaW.PrintMore
set_option linter.unusedVariables false

theorem mulHL (x y : Int) : mulL x y + B64 * mulH x y = x * y := by unfold mulL mulH B64; omega
theorem mulL_range (x y : Int) : 0 ≤ mulL x y ∧ mulL x y < B64 := by unfold mulL B64; omega
theorem mulH_range {x y : Int} (hx : 0 ≤ x ∧ x < B64) (hy : 0 ≤ y ∧ y < B64) : 0 ≤ mulH x y := by
  have := Int.mul_nonneg hx.1 hy.1
  unfold mulH; omega

/-- x y + p + c, by two limbs. -/
theorem mul_limb {x y p c : Int} (hx : 0 ≤ x ∧ x < B64) (hy : 0 ≤ y ∧ y < B64) (hp : 0 ≤ p ∧ p < B64) (hc : 0 ≤ c ∧ c < B64) :
    addS (addS (mulL x y) p 0) c 0 + B64 * (mulH x y + addC (mulL x y) p 0 + addC (addS (mulL x y) p 0) c 0) = x * y + p + c ∧
    0 ≤ addC (mulL x y) p 0 ∧ 0 ≤ addC (addS (mulL x y) p 0) c 0 ∧ mulH x y + addC (mulL x y) p 0 + addC (addS (mulL x y) p 0) c 0 < B64 := by
  have h1 := mulHL x y
  have h2 := addS_addC (mulL x y) p 0
  have h3 := addS_addC (addS (mulL x y) p 0) c 0
  have r1 := mulL_range x y
  have c1 := addC_range r1 hp (by omega : (0 : Int) ≤ 0 ∧ (0 : Int) ≤ 1)
  have c2 := addC_range (addS_range (mulL x y) p 0) hc (by omega : (0 : Int) ≤ 0 ∧ (0 : Int) ≤ 1)
  have r2 := addS_range (addS (mulL x y) p 0) c 0
  have e : addS (addS (mulL x y) p 0) c 0 + B64 * (mulH x y + addC (mulL x y) p 0 + addC (addS (mulL x y) p 0) c 0) = x * y + p + c := by grind
  refine ⟨e, c1.1, c2.1, ?_⟩
  have hxy : x * y ≤ (B64 - 1) * (B64 - 1) := Int.mul_le_mul (by omega) (by omega) hy.1 (by unfold B64; decide)
  generalize mulH x y + addC (mulL x y) p 0 + addC (addS (mulL x y) p 0) c 0 = z at *
  generalize x * y = q at *
  unfold B64 at *
  omega

theorem mul_step {B V x y p c z q : Int} {s m : List Int} (i j : Nat) (hj : j < m.length) (hij : i + j < s.length) (hm : m.getD j 0 = y) (hs : s.getD (i + j) 0 = p) (hv : val B s + B ^ (i + j) * c = V + B ^ i * x * val B (m.take j)) (he : z + B * q = x * y + p + c) :
    val B (s.set (i + j) z) + B ^ (i + (j + 1)) * q = V + B ^ i * x * val B (m.take (j + 1)) := by
  rw [val_set _ _ _ _ hij, val_take_succ _ _ _ hj, hm, hs, ← Nat.add_assoc, Int.pow_succ, Int.pow_add] at *
  grind

theorem mul_done {B V x c : Int} {s m : List Int} (i : Nat) (hi : i + m.length < s.length) (hz : s.getD (i + m.length) 0 = 0) (hv : val B s + B ^ (i + m.length) * c = V + B ^ i * x * val B (m.take m.length)) :
    val B (s.set (i + m.length) c) = V + B ^ i * x * val B m := by
  rw [List.take_length] at hv
  rw [val_set _ _ _ _ hi, hz, ← hv]; grind

theorem getD_set_ne {s : List Int} {i t : Nat} {x : Int} (h : i ≠ t) : (s.set i x).getD t 0 = s.getD t 0 := by simp [List.getD_eq_getElem?_getD, List.getElem?_set_ne h]
theorem getD_rep (n t : Nat) : (List.replicate n (0 : Int)).getD t 0 = 0 := by
  simp [List.getD_eq_getElem?_getD, List.getElem?_replicate]; split <;> rfl

set_option maxRecDepth 10000 in
set_option maxHeartbeats 2000000 in
theorem nat_mul (A B : Option Addr) (c d : Nat) (l m : List Int) (w : World) (hl : InB B64 l) (hm : InB B64 m) (hN : l.length + m.length ≤ 1099511627776) (hA : Rl w A l) (hB : Rl w B m) :
    Calls Try.prog 148 #[.slice A l.length c, .slice B m.length d] w fun e w' => ∃ v, e = .returned v ∧ Ol w' w.heap.size v (lm B64 (val B64 l * val B64 m).toNat) ∧ Below w.heap.size w w' := by
  go_enter Try.func148, Try.ntmps148
  go_wp2_with (at_make; refine wp_make w.heap.size rfl rfl _ _ rfl (l.length + m.length) rfl rfl (by omega) (Below.refl _ _) (Nat.le_refl _) ?_; intro v1 w1 hO hb)
  go_loopw [22] (fun i wr => ∃ (k : Nat) (s : List Int), k ≤ l.length ∧ Hid (s.length = l.length + m.length) ∧ InB B64 s ∧ Hid (∀ t, k + m.length ≤ t → s.getD t 0 = 0) ∧ Hid (val B64 s = val B64 (l.take k) * val B64 m) ∧ i = .int .i64 k ∧ Ol wr w.heap.size v1 s ∧ Below w.heap.size w wr) (fun i _ => l.length - (intOf i).toNat)
  case atStart => exact ⟨0, _, Nat.zero_le _, by simp [Hid], InB.rep (by decide) _, fun t _ => getD_rep _ _, by simp [Hid, val_rep], rfl, hO, hb⟩
  case round =>
    clear hO hb
    obtain ⟨k, s, hk, HS, hsB, HZ, HV, rfl, hO, hb⟩ := hrel
    obtain ⟨wo, rfl⟩ : ∃ wo : World, wo = wr := ⟨_, rfl⟩
    by_cases hlt : k < l.length
    · obtain ⟨a1, x, rfl, hc1, e1, r1, q1⟩ := Rl.get (Kd.C_below hA hb) hl k hlt
      go_wp2
      go_loopw [8, 29] (fun t j wr => ∃ (n : Nat) (p : List Int) (q : Int), n ≤ m.length ∧ Hid (p.length = l.length + m.length) ∧ InB B64 p ∧ 0 ≤ q ∧ Hid (q < B64) ∧ Hid (∀ t, k + m.length ≤ t → p.getD t 0 = 0) ∧ Hid (val B64 p + B64 ^ (k + n) * q = val B64 s + B64 ^ k * x * val B64 (m.take n)) ∧ t = .int .u64 q ∧ j = .int .i64 n ∧ Ol wr w.heap.size v1 p ∧ Below w.heap.size w wr) (fun _ j _ => m.length - (intOf j).toNat)
      case atStart => exact ⟨0, s, 0, Nat.zero_le _, HS, hsB, by omega, (by decide : (0 : Int) < B64), HZ, by simp [Hid], rfl, rfl, hO, hb⟩
      case round =>
        clear hO hb hsB HS HZ hc1
        obtain ⟨n, p, q, hn, HP, hpB, hq0, HQ, HPZ, HI, rfl, rfl, hO, hb⟩ := hrel
        have hnp : k + m.length < p.length := by rw [HP.out]; omega
        obtain ⟨g, cap, rfl, hg, hgl⟩ := Ol.shape hO (by omega)
        by_cases hltn : n < m.length
        · obtain ⟨a2, y, rfl, hc2, e2, r2, q2⟩ := Rl.get (Kd.C_below hB hb) hm n hltn
          obtain ⟨hc3, hc4⟩ := Ol.cellAt hO (k + n) (by omega)
          have hpr := hpB.getD (by decide) (k + n)
          obtain ⟨z, hz⟩ : ∃ z, p.getD (k + n) 0 = z := ⟨_, rfl⟩
          rw [hz] at hc3 hpr
          have HZ := Lib.hid hz
          clear hz
          obtain ⟨f1, f2, f3, f4⟩ := mul_limb ⟨r1, q1.out⟩ ⟨r2, q2.out⟩ hpr ⟨hq0, HQ.out⟩
          have F1 := Lib.hid f1
          clear f1
          have hH := mulH_range ⟨r1, q1.out⟩ ⟨r2, q2.out⟩
          have hL := mulL_range x y
          have hS := addS_range (mulL x y) z 0
          have HM := fun W => bits_Mul64 x y ⟨r1, q1.out⟩ ⟨r2, q2.out⟩ W
          have HA1 := fun W => run_Add64 (mulL x y) z 0 hL.1 hpr.1 (by omega) (by omega) W
          have HA2 := fun W => run_Add64 (addS (mulL x y) z 0) q 0 hS.1 hq0 (by omega) (by omega) W
          have HH := Lib.hid HM
          clear HM
          have f5 : mulH x y + addC (mulL x y) z 0 + addC (addS (mulL x y) z 0) q 0 ≤ 18446744073709551615 := by unfold B64 at f4; omega
          have F4 := Lib.hid f4
          clear f4 hpr hL hS
          go_wp2_with (go_at_call 155; refine (HH.out _).mono ?_; rintro e w' ⟨rfl, rfl⟩)
          refine ⟨⟨n + 1, _, _, by omega, by rw [List.length_set]; exact HP, hpB.set _ (addS_range _ _ _), by omega, F4.out, fun t ht => by rw [getD_set_ne (by omega)]; exact HPZ.out t ht, ?_, rfl, by go_num, hO.put _ _, hb.setCell hg _⟩, by simp [intOf]; omega⟩
          exact mul_step k n hltn (by omega) e2.out HZ.out HI.out F1.out
        · obtain rfl : n = m.length := by omega
          obtain ⟨hc3, hc4⟩ := Ol.cellAt hO (k + m.length) (by omega)
          have HM := Lib.hid (mul_done k hnp (HPZ.out _ (Nat.le_refl _)) HI.out)
          go_wp2
          have hge : k + m.length ≤ k + m.length := Nat.le_refl _
          refine ⟨⟨k + 1, _, by omega, by rw [List.length_set]; exact HP, hpB.set _ ⟨hq0, HQ.out⟩, fun t ht => by rw [getD_set_ne (by omega)]; exact HPZ.out t (by omega), ?_, by go_num, hO.put _ _, hb.setCell hg _⟩, by simp [intOf]; omega⟩
          show _ = _
          rw [HM.out, HV.out, val_take_succ _ _ _ hlt, e1.out]; grind
    · obtain rfl : k = l.length := by omega
      obtain ⟨A1, c1, rfl⟩ := Kd.R_slice hO
      have HF : Hid (val B64 s = val B64 l * val B64 m) := by have := HV.out; rw [List.take_length] at this; exact this
      go_wp2_with (go_at_call 139; refine (nat_low' _ _ _ s w.heap.size _ rfl hsB hO).mono ?_; rintro e w' ⟨v, rfl, hv1, rfl⟩)
      go_ret
      exact ⟨_, rfl, by rw [← HF.out]; exact hv1, hb⟩
end Go.Proofs.Ytajahomfmcbmlaa.T
