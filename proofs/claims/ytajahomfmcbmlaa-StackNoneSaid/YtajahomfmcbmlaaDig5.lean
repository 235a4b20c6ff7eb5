/-
The references' digits: Mul, Shl.
-/
import Derived.Test.YtajahomfmcbmlaaDig2
namespace Go.Proofs.Ytajahomfmcbmlaa.T
open Go.RowKit Go.Proofs.YtajahomfmcbmlaaW.PrintWords Go.Proofs.YtajahomfmcbmlaaW.PrintLast Go.Proofs.YtajahomfmcbmlaaW.PrintMore
set_option linter.unusedVariables false

theorem dig_mul_bound {x y : Int} (x0 : 0 ≤ x) (x1 : x ≤ 4294967295) (y0 : 0 ≤ y) (y1 : y ≤ 4294967295) : 0 ≤ x * y ∧ x * y ≤ 18446744065119617025 :=
  ⟨Int.mul_nonneg x0 y0, Int.le_trans (Int.mul_le_mul x1 y1 y0 (by omega)) (by omega)⟩

theorem InB.le {l : List Int} (h : InB B32 l) (i : Nat) : 0 ≤ l.getD i 0 ∧ l.getD i 0 ≤ 4294967295 := by
  have h1 := h.getD (by decide) i
  have := B32e'
  omega
where B32e' : ((B32 : Nat) : Int) = 4294967296 := rfl

set_option maxRecDepth 10000 in
set_option maxHeartbeats 2000000 in
theorem dig_Mul (A B : Option Addr) (n m c d : Nat) (a b : Nat) (w : World) (hn : n = (Dm a).length) (hm : m = (Dm b).length) (hN : n + m ≤ 1099511627776) (hA : Rl w A (Dm a)) (hB : Rl w B (Dm b)) :
    Calls Try.prog 87 #[.slice A n c, .slice B m d] w fun e w' => ∃ A' c', e = .returned (.slice A' (Dm (a * b)).length c') ∧ Rl w' A' (Dm (a * b)) ∧ Below w.heap.size w w' := by
  obtain ⟨l, hl⟩ : ∃ l, Dm a = l := ⟨_, rfl⟩
  obtain ⟨k, hk⟩ : ∃ l, Dm b = l := ⟨_, rfl⟩
  have hlB : InB B32 l := hl ▸ inD a
  have hkB : InB B32 k := hk ▸ inD b
  rw [hl] at hn hA
  rw [hk] at hm hB
  have HL := Lib.hid (And.intro hl hk)
  have HN := Lib.hid (And.intro hn hm)
  clear hl hk hn hm
  go_enter Try.func87, Try.ntmps87
  go_wp2_with (at_make; refine wp_make w.heap.size rfl rfl _ _ rfl (n + m) rfl rfl (by omega) (Below.refl _ _) (Nat.le_refl _) ?_; intro v1 w1 hO hb)
  go_loopw [19] (fun i wr => ∃ (j : Nat) (s : List Int), j ≤ n ∧ Hid (s.length = n + m) ∧ InB B32 s ∧ Hid (∀ t, j + m ≤ t → s.getD t 0 = 0) ∧ Hid (val B32 s = val B32 (l.take j) * val B32 k) ∧ i = .int .i64 j ∧ Ol wr w.heap.size v1 s ∧ Below w.heap.size w wr) (fun i _ => n - (intOf i).toNat)
  case atStart => exact ⟨0, _, Nat.zero_le _, by simp [Hid], InB.rep (by decide) _, fun t _ => getD_rep _ _, by simp [Hid, val_rep], rfl, hO, hb⟩
  case round =>
    clear hO hb
    obtain ⟨j, s, hj, HS, hsB, HZ, HV, rfl, hO, hb⟩ := hrel
    obtain ⟨wo, rfl⟩ : ∃ wo : World, wo = wr := ⟨_, rfl⟩
    by_cases hlt : j < n
    · obtain ⟨a1, x, rfl, hc1, e1, r1, q1⟩ := Rl.dig (Kd.C_below hA hb) hlB j (by have := HN.out; omega)
      go_wp2
      go_loopw [8, 26] (fun t i wr => ∃ (u : Nat) (p : List Int) (q : Int), u ≤ m ∧ Hid (p.length = n + m) ∧ InB B32 p ∧ 0 ≤ q ∧ q ≤ 4294967295 ∧ Hid (∀ t, j + m ≤ t → p.getD t 0 = 0) ∧ Hid (val B32 p + B32 ^ (j + u) * q = val B32 s + B32 ^ j * x * val B32 (k.take u)) ∧ t = .int .u64 q ∧ i = .int .i64 u ∧ Ol wr w.heap.size v1 p ∧ Below w.heap.size w wr) (fun _ i _ => m - (intOf i).toNat)
      case atStart => exact ⟨0, s, 0, Nat.zero_le _, HS, hsB, by omega, by omega, HZ, by simp [Hid], rfl, rfl, hO, hb⟩
      case round =>
        clear hO hb hsB HS HZ hc1
        obtain ⟨u, p, q, hu, HP, hpB, hq0, hq1, HPZ, HI, rfl, rfl, hO, hb⟩ := hrel
        have hnp : j + m < p.length := by rw [HP.out]; omega
        obtain ⟨g, cap, rfl, hg, hgl⟩ := Ol.shape hO (by omega)
        by_cases hltn : u < m
        · obtain ⟨a2, y, rfl, hc2, e2, r2, q2⟩ := Rl.dig (Kd.C_below hB hb) hkB u (by have := HN.out; omega)
          obtain ⟨hc3, hc4⟩ := Ol.cellAt hO (j + u) (by omega)
          have hpr := hpB.le (j + u)
          obtain ⟨z, hz⟩ : ∃ z, p.getD (j + u) 0 = z := ⟨_, rfl⟩
          rw [hz] at hc3 hpr
          have HZ := Lib.hid hz
          clear hz
          obtain ⟨hz0, hz1⟩ := hpr
          obtain ⟨hx0, hx1⟩ := dig_mul_bound r1 q1 r2 q2
          obtain ⟨xy, hxy⟩ : ∃ t, x * y = t := ⟨_, rfl⟩
          rw [hxy] at hx0 hx1
          obtain ⟨lo, hlo⟩ : ∃ t, (q + (z + xy)) % 4294967296 = t := ⟨_, rfl⟩
          obtain ⟨hi, hhi⟩ : ∃ t, (q + (z + xy)) / 4294967296 = t := ⟨_, rfl⟩
          have hh0 : 0 ≤ hi := by omega
          have hh1 : hi ≤ 4294967295 := by omega
          have hl0 : 0 ≤ lo := by omega
          have hl1 : lo ≤ 4294967295 := by omega
          have HE := Lib.hid (show lo + (B32 : Nat) * hi = x * y + z + q by have : ((B32 : Nat) : Int) = 4294967296 := rfl; rw [hxy, this]; omega)
          go_wp2
          refine ⟨⟨u + 1, _, hi, by omega, by rw [List.length_set]; exact HP, hpB.set _ ⟨hl0, by show lo < 4294967296; omega⟩, hh0, hh1, fun t ht => by rw [getD_set_ne (by omega)]; exact HPZ.out t ht, ?_, rfl, by go_num, hO.put _ _, hb.setCell hg _⟩, by simp [intOf]; omega⟩
          exact mul_step j u (by have := HN.out; omega) (by omega) e2.out HZ.out HI.out HE.out
        · obtain rfl : u = m := by omega
          obtain ⟨hc3, hc4⟩ := Ol.cellAt hO (j + u) (by omega)
          have hku : k.length = u := HN.out.2.symm
          have HM := Lib.hid (mul_done (s := p) (m := k) j (by rw [hku]; exact hnp) (by rw [hku]; exact HPZ.out _ (Nat.le_refl _)) (by rw [hku]; exact HI.out))
          rw [hku] at HM
          clear hku
          go_wp2
          have hge : j + u ≤ j + u := Nat.le_refl _
          refine ⟨⟨j + 1, _, by omega, by rw [List.length_set]; exact HP, hpB.set _ ⟨hq0, by show q < 4294967296; omega⟩, fun t ht => by rw [getD_set_ne (by omega)]; exact HPZ.out t (by omega), ?_, by go_num, hO.put _ _, hb.setCell hg _⟩, by simp [intOf]; omega⟩
          show _ = _
          rw [HM.out, HV.out, val_take_succ _ _ _ (by have := HN.out; omega), e1.out]; grind
    · have HJ := Lib.hid (show j = n by omega)
      obtain ⟨A1, c1, rfl⟩ := Kd.R_slice hO
      have HF : Hid ((val B32 s).toNat = a * b) := by
        have := HV.out
        rw [List.take_of_length_le (by have := HN.out; have := HJ.out; omega), ← HL.out.1, ← HL.out.2, valD, valD] at this
        show _ = _
        rw [this, ← Int.natCast_mul, Int.toNat_natCast]
      go_wp2_with fail
      refine (ref_Low' _ _ _ s w.heap.size _ rfl hsB hO).mono ?_
      rintro e w' ⟨v, rfl, hv, rfl⟩
      rw [HF.out] at hv
      obtain ⟨A2, c2, rfl⟩ := Kd.R_slice hv
      go_wp2_with fail
      go_ret
      exact ⟨_, _, rfl, (Kd.R_reads' hv).2.2, hb⟩

/-- The start of shifted digits. -/
def Sl (l s : List Int) (z n k : Nat) (c : Int) : Prop := s.length = z + k ∧ InB B32 s ∧ val B32 s + B32 ^ (z + k) * c = B32 ^ z * (val B32 (l.take k) * 2 ^ n)
theorem Sl.start (l : List Int) (z n : Nat) : Sl l (List.replicate z 0) z n 0 0 := ⟨by simp, InB.rep (by decide) _, by simp [val_rep]⟩
theorem Sl.step {l s : List Int} {z n k : Nat} {c x lo hi : Int} (h : Sl l s z n k c) (hk : k < l.length) (hx : l.getD k 0 = x) (he : lo + 4294967296 * hi = c + x * 2 ^ n) (h0 : 0 ≤ lo) (h1 : lo ≤ 4294967295) : Sl l (s ++ [lo]) z n (k + 1) hi := by
  obtain ⟨e1, e2, e3⟩ := h
  refine ⟨by simp [e1]; omega, e2.append fun y hy => ?_, ?_⟩
  · have : y = lo := by simpa using hy
    subst this
    show 0 ≤ y ∧ y < 4294967296
    omega
  have hB : ((B32 : Nat) : Int) = 4294967296 := rfl
  rw [val_append, e1, val_take_succ _ _ _ hk, hx, ← Nat.add_assoc, Int.pow_succ]
  rw [hB, Int.pow_add] at e3
  rw [hB, Int.pow_add]
  simp only [val_cons, val_nil]
  have : lo = c + x * 2 ^ n - 4294967296 * hi := by omega
  rw [this]
  generalize (4294967296 : Int) ^ z = P at *
  generalize (4294967296 : Int) ^ k = Q at *
  generalize (2 : Int) ^ n = N at *
  grind
theorem Sl.fin {l s : List Int} {z n : Nat} {c : Int} (h : Sl l s z n l.length c) (h0 : 0 ≤ c) (h1 : c ≤ 4294967295) : InB B32 (s ++ [c]) ∧ val B32 (s ++ [c]) = B32 ^ z * (val B32 l * 2 ^ n) := by
  obtain ⟨e1, e2, e3⟩ := h
  rw [List.take_length] at e3
  refine ⟨e2.append fun y hy => ?_, ?_⟩
  · have : y = c := by simpa using hy
    subst this
    show 0 ≤ y ∧ y < 4294967296
    omega
  rw [val_append, e1]; simpa using e3
end Go.Proofs.Ytajahomfmcbmlaa.T
