/-
The references' digits: half, Cmp, Sub.
-/
import Derived.Test.YtajahomfmcbmlaaNatB
import Derived.Test.YtajahomfmcbmlaaDig1
namespace Go.Proofs.Ytajahomfmcbmlaa.T
open Go.RowKit Go.Proofs.YtajahomfmcbmlaaW.PrintWords Go.Proofs.YtajahomfmcbmlaaW.PrintLast Go.Proofs.YtajahomfmcbmlaaW.PrintMore
set_option linter.unusedVariables false

theorem InB.d64 {l : List Int} (h : InB B32 l) : InB B64 l := fun y hy => ⟨(h y hy).1, Int.lt_of_lt_of_le (h y hy).2 (by decide)⟩

/-- The digit at a place, with its bounds. -/
theorem Rl.dig {w : World} {A : Option Addr} {l : List Int} (h : Rl w A l) (hB : InB B32 l) (i : Nat) (hi : i < l.length) : ∃ ad y, A = some ad ∧ w.cell? (ad.add i) = some (.int .u64 y) ∧ Hid (l.getD i 0 = y) ∧ 0 ≤ y ∧ y ≤ 4294967295 := by
  obtain ⟨ad, e, hc⟩ := Rl.at h i hi
  have hr := hB.getD (by decide) i
  have e2 : ((B32 : Nat) : Int) = 4294967296 := rfl
  exact ⟨ad, _, e, hc, rfl, hr.1, by omega⟩

set_option maxRecDepth 10000 in
set_option maxHeartbeats 1000000 in
theorem dig_Cmp0 (A B : Option Addr) (n m c d : Nat) (l k : List Int) (w : World) (hn : n = l.length) (hm : m = k.length) (hl : InB B32 l) (hk : InB B32 k) (fl : FormL l) (fk : FormL k) (hA : Rl w A l) (hB : Rl w B k) :
    Calls Try.prog 108 #[.slice A n c, .slice B m d] w fun e w' => e = .returned (.int .i64 (cmpI (val B32 l) (val B32 k))) ∧ ∃ j, w' = w.drewN j := by
  have n1 := hA.len
  have n2 := hB.len
  rcases Nat.lt_trichotomy n m with h | h | h
  · have hv : cmpI (val B32 l) (val B32 k) = -1 := by unfold cmpI; rw [if_pos (val_lt_of_len (by decide) hl hk fk (by omega))]
    rw [hv]; clear hv hn hm
    go_enter Try.func108, Try.ntmps108
    go_wp2
    go_ret
    exact ⟨rfl, 0, rfl⟩
  · subst h
    have HN := Lib.hid (And.intro hn hm)
    have h1 : n ≤ 9223372036854775807 := by omega
    clear hn hm
    go_enter Try.func108, Try.ntmps108
    go_wp2
    go_loopw [5] (fun t wr => ∃ i j : Nat, i ≤ n ∧ Hid (l.drop i = k.drop i) ∧ t = .int .i64 ((i : Int) - 1) ∧ wr = w.drewN j) (fun t _ => (intOf t + 1).toNat)
    case atStart => exact ⟨n, 0, Nat.le_refl _, by show _ = _; rw [HN.out.1, List.drop_length, ← HN.out.1, HN.out.2, List.drop_length], rfl, rfl⟩
    case round =>
      obtain ⟨i, j, hi, he, rfl, rfl⟩ := hrel
      by_cases hlt : 0 < i
      · obtain ⟨a1, rfl, hc1⟩ := Rl.at hA (i - 1) (by have := HN.out; omega)
        obtain ⟨a2, rfl, hc2⟩ := Rl.at hB (i - 1) (by have := HN.out; omega)
        obtain ⟨x, hx⟩ : ∃ x, l.getD (i - 1) 0 = x := ⟨_, rfl⟩
        obtain ⟨y, hy⟩ : ∃ x, k.getD (i - 1) 0 = x := ⟨_, rfl⟩
        rw [hx] at hc1
        rw [hy] at hc2
        have HX := Lib.hid (And.intro hx hy)
        clear hx hy
        have g1 : 1 ≤ (i : Int) := by omega
        have g2 : (i : Int) - 1 < n := by omega
        go_wp2
        go_quiet (fail)
        go_wp2
        · have hlt2 : x < y := by assumption
          go_ret
          refine ⟨ret_int ?_, _, by first | rfl | (simp only [World.drewN_drewN]; rfl)⟩
          have hd := he.out
          rw [show i = i - 1 + 1 from by omega] at hd
          unfold cmpI
          rw [if_pos (val_lt_of_digit (by decide) hl hk (by have := HN.out; omega) (i - 1) (by have := HN.out; omega) hd (by rw [HX.out.1, HX.out.2]; exact hlt2))]
        · have hlt2 : y ≤ x := by first | assumption | (apply Int.not_lt.1; assumption)
          go_quiet (fail)
          go_wp2
          · have hgt : y < x := by assumption
            go_ret
            refine ⟨ret_int ?_, _, by first | rfl | (simp only [World.drewN_drewN]; rfl)⟩
            have hd := he.out
            rw [show i = i - 1 + 1 from by omega] at hd
            have := val_lt_of_digit (by decide) hk hl (by have := HN.out; omega) (i - 1) (by have := HN.out; omega) hd.symm (by rw [HX.out.1, HX.out.2]; exact hgt)
            unfold cmpI
            rw [if_neg (by omega), if_neg (by omega)]
          · have hgt : x ≤ y := by first | assumption | (apply Int.not_lt.1; assumption)
            refine ⟨⟨i - 1, _, by omega, ?_, by rw [show ((i - 1 : Nat) : Int) = (i : Int) - 1 from by omega], by first | rfl | (simp only [World.drewN_drewN]; rfl)⟩, by simp [intOf]; omega⟩
            show _ = _
            rw [drop_getD l _ (by have := HN.out; omega), drop_getD k _ (by have := HN.out; omega), HX.out.1, HX.out.2, show i - 1 + 1 = i from by omega, he.out, show x = y from by omega]
      · obtain rfl : i = 0 := by omega
        have hlk : l = k := by have := he.out; simpa using this
        go_wp2
        go_ret
        exact ⟨ret_int (by simp [cmpI, hlk]), j, rfl⟩
  · have hv : cmpI (val B32 l) (val B32 k) = 1 := by
      have := val_lt_of_len (by decide) hk hl fl (by omega)
      unfold cmpI; rw [if_neg (by omega), if_neg (by omega)]
    rw [hv]; clear hv hn hm
    go_enter Try.func108, Try.ntmps108
    go_wp2
    go_ret
    exact ⟨rfl, 0, rfl⟩

theorem dig_Cmp (A B : Option Addr) (n m c d : Nat) (a b : Nat) (w : World) (hn : n = (Dm a).length) (hm : m = (Dm b).length) (hA : Rl w A (Dm a)) (hB : Rl w B (Dm b)) :
    Calls Try.prog 108 #[.slice A n c, .slice B m d] w fun e w' => e = .returned (.int .i64 (cmpI a b)) ∧ ∃ j, w' = w.drewN j := by
  have := dig_Cmp0 A B n m c d (Dm a) (Dm b) w hn hm (inD a) (inD b) (formD a) (formD b) hA hB
  rwa [valD, valD] at this

/-- One step of halving digits. -/
def Hf (l s : List Int) (k : Nat) : Prop := s.length = l.length ∧ InB B32 s ∧ (∀ t, k ≤ t → s.getD t 0 = 0) ∧ val B32 (l.take k) + B32 ^ k * (l.getD k 0 % 2) = 2 * val B32 s + l.getD 0 0 % 2
theorem Hf.start (l : List Int) : Hf l (List.replicate l.length 0) 0 := ⟨by simp, InB.rep (by decide) _, fun t _ => getD_rep _ _, by simp [val_rep]⟩
theorem Hf.step {l s : List Int} {k : Nat} (h : Hf l s k) (hl : InB B32 l) (hk : k < l.length) {x y z : Int} (hx : l.getD k 0 = x) (hy : l.getD (k + 1) 0 = y) (hz : z = x / 2 + y % 2 * 2147483648) : Hf l (s.set k z) (k + 1) := by
  obtain ⟨h1, h2, h3, h4⟩ := h
  have gx := hl.getD (by decide) k
  rw [hx] at gx
  have e : ((B32 : Nat) : Int) = 4294967296 := rfl
  have hzr : 0 ≤ z ∧ z < B32 := by rw [e] at gx ⊢; omega
  refine ⟨by simp [h1], h2.set _ hzr, fun t ht => by rw [getD_set_ne (by omega)]; exact h3 t (by omega), ?_⟩
  rw [val_set _ _ _ _ (by omega), h3 k (Nat.le_refl _), val_take_succ _ _ _ hk, hx, hy]
  rw [hx] at h4
  have h5 : 2 * z = x - x % 2 + 4294967296 * (y % 2) := by omega
  have h6 : (B32 : Int) ^ k * (2 * z) = B32 ^ k * (x - x % 2 + 4294967296 * (y % 2)) := by rw [h5]
  have h7 : (B32 : Int) ^ (k + 1) * (y % 2) = B32 ^ k * (4294967296 * (y % 2)) := by rw [Int.pow_succ, e]; grind
  rw [h7]
  grind
theorem Hf.fin {l s : List Int} (h : Hf l s l.length) : val B32 s = val B32 l / 2 := by
  obtain ⟨h1, h2, h3, h4⟩ := h
  rw [List.take_length] at h4
  have : l.getD l.length 0 = 0 := by simp [List.getD_eq_getElem?_getD]
  rw [this] at h4
  simp at h4
  omega

set_option maxRecDepth 10000 in
set_option maxHeartbeats 2000000 in
theorem dig_half (A : Option Addr) (n c : Nat) (a : Nat) (w : World) (hn : n = (Dm a).length) (hN : n ≤ 549755813888) (hA : Rl w A (Dm a)) :
    Calls Try.prog 107 #[.slice A n c] w fun e w' => ∃ A' c', e = .returned (.slice A' (Dm (a / 2)).length c') ∧ Rl w' A' (Dm (a / 2)) ∧ Below w.heap.size w w' := by
  obtain ⟨l, hl⟩ : ∃ l, Dm a = l := ⟨_, rfl⟩
  have hlB : InB B32 l := hl ▸ inD a
  rw [hl] at hn hA
  have HL := Lib.hid hl
  have HN := Lib.hid hn
  clear hl hn
  go_enter Try.func107, Try.ntmps107
  go_wp2_with (at_make; refine wp_make w.heap.size rfl rfl _ _ rfl n rfl rfl (by omega) (Below.refl _ _) (Nat.le_refl _) ?_; intro v1 w1 hO hb)
  go_loopw [11] (fun t wr => ∃ (k : Nat) (s : List Int), k ≤ n ∧ Hid (Hf l s k) ∧ t = .int .i64 k ∧ Ol wr w.heap.size v1 s ∧ Below w.heap.size w wr) (fun t _ => n - (intOf t).toNat)
  case atStart => exact ⟨0, _, Nat.zero_le _, HN.out ▸ Hf.start l, rfl, by have := HN.out; subst this; exact hO, hb⟩
  case round =>
    clear hO hb
    obtain ⟨k, s, hk, hs, rfl, hO, hb⟩ := hrel
    by_cases hlt : k < n
    · obtain ⟨a1, x, rfl, hc1, e1, r1, q1⟩ := Rl.dig (Kd.C_below hA hb) hlB k (by have := HN.out; omega)
      have hks : k < s.length := by have := hs.out.1; have := HN.out; omega
      obtain ⟨g, cap, rfl, hg, hgl⟩ := Ol.shape hO (by omega)
      obtain ⟨hc3, hc4⟩ := Ol.cellAt hO k hks
      have hsn : s.length = n := by rw [hs.out.1, HN.out]
      have HSN := Lib.hid hsn
      clear hsn
      by_cases hlt2 : k + 1 < n
      · obtain ⟨a2, y, e', hc2, e2, r2, q2⟩ := Rl.dig (Kd.C_below hA hb) hlB (k + 1) (by have := HN.out; omega)
        obtain rfl : a1 = a2 := by simpa using e'
        go_wp2_with fail
        refine wp_region_still_tail 13 (by kernel_rfl) (by kernel_rfl) ?_
        simp only [List.take_succ_cons, List.take_zero, List.drop_succ_cons, List.drop_zero]
        obtain ⟨z0, hz0⟩ : ∃ z, x / 2 = z := ⟨_, rfl⟩
        rw [hz0]
        have g0 : 0 ≤ z0 := by omega
        have g1 : z0 ≤ 2147483647 := by omega
        have HZ0 := Lib.hid hz0
        clear hz0
        have hr2 := Kd.R_drew (Ol.put hO k z0)
        have hB2 : Below w.heap.size w (wr.setCell ⟨g, k, none⟩ (.int .u64 z0)).drew := (hb.setCell (p := ⟨g, k, none⟩) hg _).drew
        change wpStill _ _ ((wr.setCell ⟨g, k, none⟩ (.int .u64 z0)).drew) (fun a' => wpList _ _ _ _ a' ((wr.setCell ⟨g, k, none⟩ (.int .u64 z0)).drew)) _ _
        clear hc1 hc2 hc3 hc4
        generalize (wr.setCell ⟨g, k, none⟩ (.int .u64 z0)).drew = W at hr2 hB2 ⊢
        obtain ⟨hd3, hd4⟩ := Ol.cellAt hr2 k (by rw [List.length_set]; exact hks)
        rw [show (s.set k z0).getD k 0 = z0 from by simp [List.getD_eq_getElem?_getD, hks]] at hd3
        obtain ⟨a3, y2, e3, hd5, e4, r4, q4⟩ := Rl.dig (Kd.C_below hA hB2) hlB (k + 1) (by have := HN.out; omega)
        obtain rfl : a1 = a3 := by simpa using e3
        obtain rfl : y = y2 := by rw [← e2.out, ← e4.out]
        have hw : IntKind.i64.wrap ((k : Int) + 1) = (k : Int) + 1 := IntWalk.i64_in _ ⟨by omega, by omega⟩
        have hw2 : 0 ≤ (k : Int) + 1 := by omega
        have hd6 : W.cell? ⟨a1.block, a1.off + (k + 1), none⟩ = some (.int .u64 y) := by simpa [Addr.add] using hd5
        repeat still_step
        refine wpStill_nil ?_
        go_wp2_with fail
        refine ⟨⟨k + 1, _, by omega, ?_, by go_num, Ol.put hr2 k _, hB2.setCell hg _⟩, by simp [intOf]; omega⟩
        rw [List.set_set]
        exact hs.out.step hlB (by have := HN.out; omega) e1.out e2.out (by rw [HZ0.out])
      · go_wp2_with fail
        refine ⟨⟨k + 1, _, by omega, ?_, by go_num, Ol.put hO k _, hb.setCell hg _⟩, by simp [intOf]; omega⟩
        exact hs.out.step hlB (by have := HN.out; omega) e1.out (y := 0) (by rw [List.getD_eq_getElem?_getD, List.getElem?_eq_none (by have := HN.out; omega)]; rfl) (by omega)
    · obtain rfl : k = n := by omega
      have hF : val B32 s = val B32 l / 2 := by have := hs.out; rw [HN.out] at this; exact this.fin
      have hV : (val B32 s).toNat = a / 2 := by
        rw [hF, ← HL.out, valD]; omega
      obtain ⟨A1, c1, rfl⟩ := Kd.R_slice hO
      have HV := Lib.hid hV
      clear hF hV
      go_wp2_with fail
      refine (ref_Low' _ _ _ s w.heap.size _ rfl hs.out.2.1 hO).mono ?_
      rintro e w' ⟨v, rfl, hv, rfl⟩
      rw [HV.out] at hv
      obtain ⟨A2, c2, rfl⟩ := Kd.R_slice hv
      go_wp2_with fail
      go_ret
      exact ⟨_, _, rfl, (Kd.R_reads' hv).2.2, hb⟩
end Go.Proofs.Ytajahomfmcbmlaa.T
