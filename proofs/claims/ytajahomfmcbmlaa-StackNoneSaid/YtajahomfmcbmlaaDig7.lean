/-
The references' digits: Gcd.
-/
import Derived.Test.YtajahomfmcbmlaaDig3
import Derived.Test.YtajahomfmcbmlaaDig6
import Derived.Deep.LoopGhost
namespace Go.Proofs.Ytajahomfmcbmlaa.T
open Go.RowKit Go.Proofs.YtajahomfmcbmlaaW.PrintWords Go.Proofs.YtajahomfmcbmlaaW.PrintLast Go.Proofs.YtajahomfmcbmlaaW.PrintMore
set_option linter.unusedVariables false

theorem dig_len_le {a b : Nat} (h : a ≤ b) : (Dm a).length ≤ (Dm b).length := lm_len_le two_le_B32 _ _ (Nat.lt_of_le_of_lt h (lm_len_lt two_le_B32 b))
theorem dig_pos {a : Nat} : 0 < (Dm a).length ↔ a ≠ 0 := by
  constructor
  · intro h e; subst e; rw [show Dm 0 = [] from lm_zero _] at h; simp at h
  · intro h; rw [show Dm a = _ from lm_succ two_le_B32 h]; simp
theorem dig_head (a : Nat) : (Dm a).getD 0 0 % 2 = ((a % 2 : Nat) : Int) := by
  by_cases h : a = 0
  · subst h; rw [show Dm 0 = [] from lm_zero _]; rfl
  · rw [show Dm a = _ from lm_succ two_le_B32 h]
    have : a % B32 % 2 = a % 2 := Nat.mod_mod_of_dvd _ (by decide)
    simp only [List.getD_cons_zero]
    omega
/-- A number's first digit: what the test of its parity reads. -/
theorem Rl.par {w : World} {A : Option Addr} {a : Nat} (h : Rl w A (Dm a)) (h0 : a ≠ 0) : ∃ ad x, A = some ad ∧ w.cell? ad = some (.int .u64 x) ∧ 0 ≤ x ∧ x ≤ 4294967295 ∧ x % 2 = ((a % 2 : Nat) : Int) := by
  obtain ⟨ad, x, e, hc, hx, h1, h2⟩ := Rl.dig h (inD a) 0 (dig_pos.2 h0)
  exact ⟨ad, x, e, by simpa [Addr.add] using hc, h1, h2, by rw [← hx.out]; exact dig_head a⟩

theorem gcd_half {u y G : Nat} (hG : G % 2 = 1) (h : Nat.gcd u y = G) (hu : u % 2 = 0) : Nat.gcd (u / 2) y = G := by
  have e : u = u / 2 * 2 := by omega
  have h2 : Nat.Coprime G 2 := by
    have := Nat.gcd_rec 2 G
    rw [hG] at this
    rw [Nat.coprime_iff_gcd_eq_one, Nat.gcd_comm, this]; rfl
  apply Nat.dvd_antisymm
  · rw [← h]
    exact Nat.dvd_gcd (Nat.dvd_trans (Nat.gcd_dvd_left _ _) ⟨2, e⟩) (Nat.gcd_dvd_right _ _)
  · refine Nat.dvd_gcd ?_ (h ▸ Nat.gcd_dvd_right _ _)
    have : G ∣ u / 2 * 2 := e ▸ (h ▸ Nat.gcd_dvd_left u y)
    exact h2.dvd_of_dvd_mul_right this
theorem gcd_half' {u y G : Nat} (hG : G % 2 = 1) (h : Nat.gcd u y = G) (hu : y % 2 = 0) : Nat.gcd u (y / 2) = G := by
  rw [Nat.gcd_comm] at h ⊢; exact gcd_half hG h hu
theorem gcd_odd {x y : Nat} (h : x % 2 = 1 ∨ y % 2 = 1) : Nat.gcd x y % 2 = 1 := by
  by_cases h2 : Nat.gcd x y % 2 = 1
  · exact h2
  · exfalso
    have : 2 ∣ Nat.gcd x y := Nat.dvd_of_mod_eq_zero (by omega)
    have h3 := Nat.dvd_trans this (Nat.gcd_dvd_left x y)
    have h4 := Nat.dvd_trans this (Nat.gcd_dvd_right x y)
    omega
theorem gcd_less {x y G : Nat} (h : Nat.gcd x y = G) (hle : y ≤ x) : Nat.gcd (x - y) y = G := by rw [← h, Nat.gcd_comm, Nat.gcd_comm x]; exact Nat.gcd_sub_self_right hle
theorem twos_bound {a x t n : Nat} (h : x * 2 ^ t = a) (hx : x ≠ 0) (hn : (Dm a).length ≤ n) : t ≤ 32 * n := by
  have h1 := lm_len_lt two_le_B32 a
  have h2 : B32 ^ (lm B32 a).length ≤ B32 ^ n := Nat.pow_le_pow_right (by decide) hn
  have h3 : 2 ^ t ≤ a := by rw [← h]; exact Nat.le_mul_of_pos_left _ (by omega)
  have h4 : B32 ^ n = 2 ^ (32 * n) := by rw [Nat.pow_mul]; rfl
  have h5 : 2 ^ t < 2 ^ (32 * n) := Nat.lt_of_le_of_lt h3 (Nat.lt_of_lt_of_le h1 (h4 ▸ h2))
  exact Nat.le_of_lt ((Nat.pow_lt_pow_iff_right (by decide)).1 h5)

set_option maxRecDepth 10000 in
set_option maxHeartbeats 8000000 in
theorem dig_Gcd (A B : Option Addr) (n m c d : Nat) (a b : Nat) (w : World) (hn : n = (Dm a).length) (hm : m = (Dm b).length) (hN : n ≤ 274877906944) (hM : m ≤ 274877906944) (hA : Rl w A (Dm a)) (hB : Rl w B (Dm b)) :
    Calls Try.prog 77 #[.slice A n c, .slice B m d] w fun e w' => ∃ A' c', e = .returned (.slice A' (Dm (Nat.gcd a b)).length c') ∧ Rl w' A' (Dm (Nat.gcd a b)) ∧ Below w.heap.size w w' := by
  by_cases ha : a = 0
  · subst ha
    rw [Nat.gcd_zero_left]
    have h0 : n = 0 := by rw [hn, show Dm 0 = [] from lm_zero _]; rfl
    have h1 : ((n : Int) == 0) = true := by simp [h0]
    have HM := Lib.hid hm
    clear hn h0 hm
    go_enter Try.func77, Try.ntmps77
    go_wp2
    go_ret
    exact ⟨_, _, by have := HM.out; subst this; rfl, hB, Below.refl _ _⟩
  by_cases hb : b = 0
  · subst hb
    rw [Nat.gcd_zero_right]
    have h0 : m = 0 := by rw [hm, show Dm 0 = [] from lm_zero _]; rfl
    have h1 : 0 < n := by rw [hn]; exact dig_pos.2 ha
    have h2 : ((n : Int) == 0) = false := by simp; omega
    have h3 : ((m : Int) == 0) = true := by simp [h0]
    have HN := Lib.hid hn
    clear hn ha hm h0
    go_enter Try.func77, Try.ntmps77
    go_wp2
    go_ret
    exact ⟨_, _, by have := HN.out; subst this; rfl, hA, Below.refl _ _⟩
  have h1 : ((n : Int) == 0) = false := by have := dig_pos.2 ha; simp; omega
  have h2 : ((m : Int) == 0) = false := by have := dig_pos.2 hb; simp; omega
  have HN := Lib.hid (And.intro hn hm)
  have HAB := Lib.hid (And.intro ha hb)
  clear hn hm ha hb
  go_enter Try.func77, Try.ntmps77
  go_wp2
  go_loopg [0, 1, 5] (a + 1) (fun k t0 t1 t5 wr => ∃ (x y t : Nat) (A : Option Addr) (nx c : Nat) (B : Option Addr) (ny d : Nat), t0 = .slice A nx c ∧ t1 = .slice B ny d ∧ t5 = .int .i64 t ∧ Hid (x ≠ 0 ∧ y ≠ 0 ∧ x < k ∧ x * 2 ^ t = a ∧ y * 2 ^ t = b ∧ nx = (Dm x).length ∧ ny = (Dm y).length) ∧ nx ≤ 274877906944 ∧ ny ≤ 274877906944 ∧ t ≤ 8796093022208 ∧ Rl wr A (Dm x) ∧ Rl wr B (Dm y) ∧ Below w.heap.size w wr)
  case atStart => exact ⟨a, b, 0, A, n, c, B, m, d, rfl, rfl, rfl, ⟨HAB.out.1, HAB.out.2, by omega, by simp, by simp, HN.out.1, HN.out.2⟩, hN, hM, by omega, hA, hB, Below.refl _ _⟩
  case round =>
    clear hA hB h1 h2
    obtain ⟨x, y, t, A, nx, c, B, ny, d, rfl, rfl, rfl, H, hnx, hny, ht, hX, hY, hb⟩ := hrel
    obtain ⟨a1, px, rfl, hc1, r1, q1, p1⟩ := Rl.par hX H.out.1
    obtain ⟨a2, py, rfl, hc2, r2, q2, p2⟩ := Rl.par hY H.out.2.1
    have l1 : 0 < nx := by rw [H.out.2.2.2.2.2.1]; exact dig_pos.2 H.out.1
    have l2 : 0 < ny := by rw [H.out.2.2.2.2.2.2]; exact dig_pos.2 H.out.2.1
    rcases (show (x % 2 = 0 ∧ y % 2 = 0) ∨ x % 2 = 1 ∨ (x % 2 = 0 ∧ y % 2 = 1) by omega) with hp | hp | hp
    · have P1 : (px % 2 == 0) = true := by rw [p1, hp.1]; rfl
      have P2 : (py % 2 == 0) = true := by rw [p2, hp.2]; rfl
      have HP := Lib.hid hp
      clear p1 p2 hp
      go_wp2_with fail
      refine (dig_half _ nx c x _ H.out.2.2.2.2.2.1 (by omega) hX).mono ?_
      rintro e w1 ⟨A3, c3, rfl, hX1, hb1⟩
      go_wp2_with fail
      refine (dig_half _ ny d y _ H.out.2.2.2.2.2.2 (by omega) (hY.below hb1)).mono ?_
      rintro e w2 ⟨A4, c4, rfl, hY1, hb2⟩
      go_wp2_with fail
      go_roundg x
      case measure => exact H.out.2.2.1
      case rel =>
        have hx := H.out.1
        have hy := H.out.2.1
        have hpx := HP.out.1
        have hpy := HP.out.2
        have e1 : x / 2 * 2 ^ (t + 1) = a := by rw [Nat.pow_succ, ← H.out.2.2.2.1, Nat.mul_comm _ 2, ← Nat.mul_assoc, show x / 2 * 2 = x by omega]
        have e2 : y / 2 * 2 ^ (t + 1) = b := by rw [Nat.pow_succ, ← H.out.2.2.2.2.1, Nat.mul_comm _ 2, ← Nat.mul_assoc, show y / 2 * 2 = y by omega]
        have e3 : x / 2 ≤ x := by omega
        have e4 : y / 2 ≤ y := by omega
        have f1 := dig_len_le e3
        have f2 := dig_len_le e4
        rw [← H.out.2.2.2.2.2.1] at f1
        rw [← H.out.2.2.2.2.2.2] at f2
        have e5 : t + 1 ≤ 32 * n := twos_bound e1 (by omega) (by rw [HN.out.1]; exact Nat.le_refl _)
        exact ⟨x / 2, y / 2, t + 1, _, _, _, _, _, _, rfl, rfl, by go_num, ⟨by omega, by omega, by omega, e1, e2, rfl, rfl⟩, by omega, by omega, by omega, hX1.below hb2, hY1, (hb.trans (hb1.mono hb.size)).trans (hb2.mono (hb.trans (hb1.mono hb.size)).size)⟩
    all_goals
      have hG : Nat.gcd x y % 2 = 1 := gcd_odd (by omega)
      have HG := Lib.hid hG
      first
        | (have P1 : (px % 2 == 0) = false := by rw [p1, hp]; rfl)
        | (have P1 : (px % 2 == 0) = true := by rw [p1, hp.1]; rfl
           have P2 : (py % 2 == 0) = false := by rw [p2, hp.2]; rfl)
      clear p1 p2 hp hG
      go_wp2_with fail
      clear P1
      go_loopg [0, 1] (x + y + 1) (fun k t0 t1 wr => ∃ (u v : Nat) (A : Option Addr) (nx c : Nat) (B : Option Addr) (ny d : Nat), t0 = .slice A nx c ∧ t1 = .slice B ny d ∧ Hid (v ≠ 0 ∧ u + v < k ∧ Nat.gcd u v = Nat.gcd x y ∧ nx = (Dm u).length ∧ ny = (Dm v).length) ∧ nx ≤ 274877906944 ∧ ny ≤ 274877906944 ∧ Rl wr A (Dm u) ∧ Rl wr B (Dm v) ∧ Below w.heap.size w wr)
      case atStart => exact ⟨x, y, _, nx, c, _, ny, d, rfl, rfl, ⟨H.out.2.1, by omega, rfl, H.out.2.2.2.2.2.1, H.out.2.2.2.2.2.2⟩, hnx, hny, hX, hY, hb⟩
      case round =>
        clear hX hY hb hnx hny l1 l2
        obtain ⟨wo, rfl⟩ : ∃ wo : World, wo = wr := ⟨_, rfl⟩
        obtain ⟨u, v, A, nx, c, B, ny, d, rfl, rfl, HU, hnx, hny, hX, hY, hb⟩ := hrel
        by_cases hu : u = 0
        · have h0 : ¬ 0 < nx := by rw [HU.out.2.2.2.1, hu, show Dm 0 = [] from lm_zero _]; simp
          have hF : v * 2 ^ t = Nat.gcd a b := by
            have h3 := HU.out.2.2.1
            rw [hu, Nat.gcd_zero_left] at h3
            rw [h3, ← H.out.2.2.2.1, ← H.out.2.2.2.2.1, Nat.gcd_mul_right]
          have HF := Lib.hid hF
          clear hF hu
          go_wp2_with fail
          refine (dig_Shl _ ny d v t _ HU.out.2.2.2.2 hny ht hY).mono ?_
          rintro e w3 ⟨A5, c5, rfl, hR, hb3⟩
          rw [HF.out] at hR
          go_wp2_with fail
          go_ret
          exact ⟨_, _, by rw [HF.out]; rfl, hR, hb.trans (hb3.mono hb.size)⟩
        · have h0 : 0 < nx := by rw [HU.out.2.2.2.1]; exact dig_pos.2 hu
          have HU0 := Lib.hid hu
          clear hu
          go_wp2_with fail
          go_loopg [0] (u + 1) (fun k t0 wr2 => ∃ (p : Nat) (A : Option Addr) (nx c : Nat), t0 = .slice A nx c ∧ Hid (p ≠ 0 ∧ p < k ∧ p ≤ u ∧ Nat.gcd p v = Nat.gcd x y ∧ nx = (Dm p).length) ∧ nx ≤ 274877906944 ∧ Rl wr2 A (Dm p) ∧ Below wo.heap.size wo wr2)
          case atStart => exact ⟨u, _, nx, c, rfl, ⟨HU0.out, by omega, by omega, HU.out.2.2.1, HU.out.2.2.2.1⟩, hnx, hX, Below.refl _ _⟩
          case round =>
            clear hX hnx h0
            obtain ⟨wp, rfl⟩ : ∃ wp : World, wp = wr := ⟨_, rfl⟩
            obtain ⟨p, A, nx, c, rfl, HP, hnx, hX, hbp⟩ := hrel
            obtain ⟨a3, pp, rfl, hc3, r3, q3, p3⟩ := Rl.par hX HP.out.1
            have l3 : 0 < nx := by rw [HP.out.2.2.2.2]; exact dig_pos.2 HP.out.1
            by_cases hp2 : p % 2 = 0
            · have P1 : (pp % 2 == 0) = true := by rw [p3, hp2]; rfl
              have HP2 := Lib.hid hp2
              clear hp2 p3
              go_wp2_with fail
              refine (dig_half _ nx c p _ HP.out.2.2.2.2 (by omega) hX).mono ?_
              rintro e w1 ⟨A3, c3, rfl, hX1, hb1⟩
              go_wp2_with fail
              go_roundg p
              case measure => exact HP.out.2.1
              case rel =>
                have h1 := HP.out.1
                have h2 := HP2.out
                have h3 := HP.out.2.2.1
                have f1 := dig_len_le (show p / 2 ≤ p by omega)
                rw [← HP.out.2.2.2.2] at f1
                exact ⟨p / 2, _, _, _, rfl, ⟨by omega, by omega, by omega, gcd_half HG.out HP.out.2.2.2.1 h2, rfl⟩, by omega, hX1, hbp.trans (hb1.mono hbp.size)⟩
            · have P1 : (pp % 2 == 0) = false := by rw [p3, show p % 2 = 1 by omega]; rfl
              clear hp2 p3
              go_wp2_with fail
              clear P1
              have hY1 := hY.below hbp
              go_loopg [1] (v + 1) (fun k t1 wr3 => ∃ (q : Nat) (B : Option Addr) (ny d : Nat), t1 = .slice B ny d ∧ Hid (q ≠ 0 ∧ q < k ∧ q ≤ v ∧ Nat.gcd p q = Nat.gcd x y ∧ ny = (Dm q).length) ∧ ny ≤ 274877906944 ∧ Rl wr3 B (Dm q) ∧ Below wp.heap.size wp wr3)
              case atStart => exact ⟨v, _, ny, d, rfl, ⟨HU.out.1, by omega, by omega, HP.out.2.2.2.1, HU.out.2.2.2.2⟩, hny, hY1, Below.refl _ _⟩
              case round =>
                clear hY1 hY hny
                obtain ⟨q, B, ny, d, rfl, HQ, hny, hY, hbq⟩ := hrel
                obtain ⟨a4, qq, rfl, hc4, r4, q4, p4⟩ := Rl.par hY HQ.out.1
                have l4 : 0 < ny := by rw [HQ.out.2.2.2.2]; exact dig_pos.2 HQ.out.1
                by_cases hq2 : q % 2 = 0
                · have P1 : (qq % 2 == 0) = true := by rw [p4, hq2]; rfl
                  have HQ2 := Lib.hid hq2
                  clear hq2 p4
                  go_wp2_with fail
                  refine (dig_half _ ny d q _ HQ.out.2.2.2.2 (by omega) hY).mono ?_
                  rintro e w1 ⟨A3, c3, rfl, hY1, hb1⟩
                  go_wp2_with fail
                  go_roundg q
                  case measure => exact HQ.out.2.1
                  case rel =>
                    have h1 := HQ.out.1
                    have h2 := HQ2.out
                    have h3 := HQ.out.2.2.1
                    have f1 := dig_len_le (show q / 2 ≤ q by omega)
                    rw [← HQ.out.2.2.2.2] at f1
                    exact ⟨q / 2, _, _, _, rfl, ⟨by omega, by omega, by omega, gcd_half' HG.out HQ.out.2.2.2.1 h2, rfl⟩, by omega, hY1, hbq.trans (hb1.mono hbq.size)⟩
                · have P1 : (qq % 2 == 0) = false := by rw [p4, show q % 2 = 1 by omega]; rfl
                  clear hq2 p4
                  go_wp2_with fail
                  clear P1
                  have hX2 := hX.below hbq
                  refine (dig_Cmp _ _ nx ny c d p q _ HP.out.2.2.2.2 HQ.out.2.2.2.2 hX2 hY).mono ?_
                  rintro e w1 ⟨rfl, j, rfl⟩
                  have hX3 : Rl (wr.drewN j) _ (Dm p) := hX2
                  have hY3 : Rl (wr.drewN j) _ (Dm q) := hY
                  have hb3 : Below w.heap.size w (wr.drewN j) := pw_below_drewN ((hb.trans (hbp.mono hb.size)).trans (hbq.mono (hb.trans (hbp.mono hb.size)).size)) j
                  clear hX hX2 hY hb hbp hbq
                  generalize wr.drewN j = w2 at hX3 hY3 hb3 ⊢
                  by_cases hpq : p < q
                  · have hc : cmpI p q = -1 := by unfold cmpI; rw [if_pos (by omega)]
                    rw [hc]
                    have HPQ := Lib.hid hpq
                    clear hc hpq
                    go_wp2_with fail
                    refine (dig_Sub _ _ ny nx d c q p _ HQ.out.2.2.2.2 HP.out.2.2.2.2 (Nat.le_of_lt HPQ.out) hny hY3 hX3).mono ?_
                    rintro e w4 ⟨A5, c5, rfl, hR, hb4⟩
                    go_wp2_with fail
                    go_roundg (q - p + p + 1)
                    case measure => have := HU.out.2.1; have := HQ.out.2.2.1; have := HPQ.out; have := HU0.out; omega
                    case rel => exact ⟨q - p, p, _, _, _, _, _, _, rfl, rfl, ⟨HP.out.1, by omega, gcd_less (by rw [Nat.gcd_comm]; exact HQ.out.2.2.2.1) (Nat.le_of_lt HPQ.out), rfl, HP.out.2.2.2.2⟩, by have := dig_len_le (show q - p ≤ q by omega); have := HQ.out.2.2.2.2; omega, hnx, hR, hX3.below hb4, hb3.trans (hb4.mono hb3.size)⟩
                  · have hc : (cmpI p q < 0) = False := by unfold cmpI; rw [if_neg (by omega)]; split <;> simp
                    have hc2 : 0 ≤ cmpI p q := by unfold cmpI; rw [if_neg (by omega)]; split <;> omega
                    obtain ⟨z, hz⟩ : ∃ z, cmpI p q = z := ⟨_, rfl⟩
                    rw [hz] at hc2 ⊢
                    have HPQ := Lib.hid (Nat.le_of_not_lt hpq)
                    clear hc hpq hz
                    go_wp2_with fail
                    refine (dig_Sub _ _ nx ny c d p q _ HP.out.2.2.2.2 HQ.out.2.2.2.2 HPQ.out hnx hX3 hY3).mono ?_
                    rintro e w4 ⟨A5, c5, rfl, hR, hb4⟩
                    go_wp2_with fail
                    go_roundg (p - q + q + 1)
                    case measure => have := HU.out.2.1; have := HP.out.2.2.1; have := HPQ.out; have := HU.out.1; omega
                    case rel => exact ⟨p - q, q, _, _, _, _, _, _, rfl, rfl, ⟨HQ.out.1, by omega, gcd_less HQ.out.2.2.2.1 HPQ.out, rfl, HQ.out.2.2.2.2⟩, by have := dig_len_le (show p - q ≤ p by omega); have := HP.out.2.2.2.2; omega, hny, hR, hY3.below hb4, hb3.trans (hb4.mono hb3.size)⟩
end Go.Proofs.Ytajahomfmcbmlaa.T
