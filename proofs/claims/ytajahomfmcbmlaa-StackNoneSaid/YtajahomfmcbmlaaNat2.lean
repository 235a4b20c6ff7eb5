/-
Sums, differences and products of limbs.
-/
import Derived.Test.YtajahomfmcbmlaaNat1
import Derived.Test.YtajahomfmcbmlaaBits
import Derived.Test.YtajahomfmcbmlaaShelf
namespace Go.Proofs.Ytajahomfmcbmlaa.T
open Go.RowKit Go.Proofs.YtajahomfmcbmlaaW.PrintWords Go.Proofs.YtajahomfmcbmlaaW.PrintLast Go.Proofs.YtajahomfmcbmlaaW.PrintMore
set_option linter.unusedVariables false

theorem add_step {s l m : List Int} {x : Int} (hs : InB B64 s) (hsl : s.length = l.length + 1) (k : Nat) (hk : k < l.length) (a y : Int) (ha : l.getD k 0 = a) (hy : val B64 (m.take (k + 1)) = val B64 (m.take k) + B64 ^ k * y) (hv : val B64 (s.take k) + B64 ^ k * x = val B64 (l.take k) + val B64 (m.take k)) (ha : 0 ≤ a ∧ a < B64) (hy : 0 ≤ y ∧ y < B64) (hx : 0 ≤ x ∧ x ≤ 1) :
    InB B64 (s.set k (addS a y x)) ∧ 0 ≤ addC a y x ∧ addC a y x ≤ 1 ∧ val B64 ((s.set k (addS a y x)).take (k + 1)) + B64 ^ (k + 1) * addC a y x = val B64 (l.take (k + 1)) + val B64 (m.take (k + 1)) := by
  have h1 := addC_range ha hy hx
  refine ⟨hs.set _ (addS_range _ _ _), h1.1, h1.2, ?_⟩
  rw [val_take_succ _ _ k (by simp; omega), val_take_succ _ l k hk, ‹val B64 (m.take (k + 1)) = _›, List.take_set_of_le (Nat.le_refl _)]
  have e : (s.set k (addS a y x)).getD k 0 = addS a y x := by simp [List.getD_eq_getElem?_getD, show k < s.length by omega]
  have h2 := addS_addC a y x
  rw [e, ‹l.getD k 0 = a›, Int.pow_succ]
  grind

theorem take_all_succ {m : List Int} (B : Int) {k : Nat} (h : m.length ≤ k) : val B (m.take (k + 1)) = val B (m.take k) + B ^ k * 0 := by
  rw [List.take_of_length_le h, List.take_of_length_le (by omega)]; simp

theorem add_done {s l m : List Int} {x : Int} (hs : InB B64 s) (hsl : s.length = l.length + 1) (h0 : 0 ≤ x) (h1 : x ≤ 1) (hlm : m.length ≤ l.length) (hv : val B64 (s.take l.length) + B64 ^ l.length * x = val B64 (l.take l.length) + val B64 (m.take l.length)) :
    InB B64 (s.set l.length x) ∧ val B64 (s.set l.length x) = val B64 l + val B64 m := by
  refine ⟨hs.set _ ⟨h0, Int.lt_of_le_of_lt h1 (by decide)⟩, ?_⟩
  rw [List.take_length, List.take_of_length_le hlm] at hv
  rw [← hv, ← List.take_of_length_le (show (s.set l.length x).length ≤ l.length + 1 by simp; omega), val_take_succ _ _ _ (by simp; omega), List.take_set_of_le (Nat.le_refl _)]
  simp [List.getD_eq_getElem?_getD, show l.length < s.length by omega]

set_option maxRecDepth 10000 in
set_option maxHeartbeats 1000000 in
theorem nat_add (A B : Option Addr) (c d : Nat) (l m : List Int) (w : World) (hl : InB B64 l) (hm : InB B64 m) (hlm : m.length ≤ l.length) (hN : l.length ≤ 1099511627776) (hA : Rl w A l) (hB : Rl w B m) :
    Calls Try.prog 158 #[.slice A l.length c, .slice B m.length d] w fun e w' => ∃ v, e = .returned v ∧ Ol w' w.heap.size v (lm B64 (val B64 l + val B64 m).toNat) ∧ Below w.heap.size w w' := by
  have n2 := hB.len
  go_enter Try.func158, Try.ntmps158
  go_wp2_with (at_make; refine wp_make w.heap.size rfl rfl _ _ rfl (l.length + 1) rfl rfl (by omega) (Below.refl _ _) (Nat.le_refl _) ?_; intro v1 w1 hO hb)
  obtain ⟨g, cap, rfl, hg, hgl⟩ := Ol.shape hO (by simp)
  rw [List.length_replicate] at hO ⊢
  go_loopw [6, 16] (fun t i wr => ∃ (k : Nat) (s : List Int) (x : Int), k ≤ l.length ∧ s.length = l.length + 1 ∧ InB B64 s ∧ 0 ≤ x ∧ x ≤ 1 ∧ Hid (val B64 (s.take k) + B64 ^ k * x = val B64 (l.take k) + val B64 (m.take k)) ∧ t = .int .u64 x ∧ i = .int .i64 k ∧ Ol wr w.heap.size (.slice (some ⟨g, 0, none⟩) (l.length + 1) cap) s ∧ Below w.heap.size w wr) (fun _ i _ => l.length - (intOf i).toNat)
  case atStart => exact ⟨0, _, 0, Nat.zero_le _, by simp, InB.rep (by decide) _, by omega, by omega, by simp [Hid], rfl, rfl, hO, hb⟩
  case round =>
    clear hO hb hgl
    obtain ⟨k, s, x, hk, hs, hsB, hx0, hx1, hv, rfl, rfl, hO, hb⟩ := hrel
    have HS := Lib.hid hs
    clear hs
    by_cases hlt : k < l.length
    · obtain ⟨a1, y1, rfl, hc1, e1, r1, q1⟩ := Rl.get (Kd.C_below hA hb) hl k hlt
      obtain ⟨hc3, hc4⟩ := Ol.cellAt hO k (by rw [HS.out]; omega)
      by_cases hlt2 : k < m.length
      · obtain ⟨a2, y2, rfl, hc2, e2, r2, q2⟩ := Rl.get (Kd.C_below hB hb) hm k hlt2
        have Hadd := fun W => run_Add64 y1 y2 x r1 r2 hx0 hx1 W
        have HSt := Lib.hid (add_step (m := m) hsB HS.out k hlt y1 y2 e1.out (by rw [val_take_succ _ _ _ hlt2, e2.out]) hv.out ⟨r1, q1.out⟩ ⟨r2, q2.out⟩ ⟨hx0, hx1⟩)
        go_wp2
        exact ⟨⟨k + 1, _, _, by omega, by rw [List.length_set]; exact HS.out, HSt.out.1, HSt.out.2.1, HSt.out.2.2.1, Lib.hid HSt.out.2.2.2, rfl, by go_num, hO.put k _, hb.setCell hg _⟩, by simp [intOf]; omega⟩
      · have Hadd := fun W => run_Add64 y1 0 x r1 (by omega) hx0 hx1 W
        have HSt := Lib.hid (add_step (m := m) hsB HS.out k hlt y1 0 e1.out (take_all_succ _ (by omega)) hv.out ⟨r1, q1.out⟩ (by decide) ⟨hx0, hx1⟩)
        go_wp2
        exact ⟨⟨k + 1, _, _, by omega, by rw [List.length_set]; exact HS.out, HSt.out.1, HSt.out.2.1, HSt.out.2.2.1, Lib.hid HSt.out.2.2.2, rfl, by go_num, hO.put k _, hb.setCell hg _⟩, by simp [intOf]; omega⟩
    · obtain rfl : k = l.length := by omega
      obtain ⟨hc3, hc4⟩ := Ol.cellAt hO l.length (by rw [HS.out]; omega)
      have HF := Lib.hid (add_done hsB HS.out hx0 hx1 hlm hv.out)
      go_wp2_with (go_at_call 139; refine (nat_low' _ _ _ (s.set l.length x) w.heap.size _ (by rw [List.length_set]; exact HS.out.symm) HF.out.1 (hO.put _ _)).mono ?_; rintro e w' ⟨v, rfl, hv1, rfl⟩)
      go_ret
      exact ⟨_, rfl, by rw [← HF.out.2]; exact hv1, hb.setCell hg _⟩
theorem sub_step {s l m : List Int} {x : Int} (hs : InB B64 s) (hsl : s.length = l.length) (k : Nat) (hk : k < l.length) (a y : Int) (ha : l.getD k 0 = a) (hy : val B64 (m.take (k + 1)) = val B64 (m.take k) + B64 ^ k * y) (hv : val B64 (s.take k) - B64 ^ k * x = val B64 (l.take k) - val B64 (m.take k)) (ha : 0 ≤ a ∧ a < B64) (hy : 0 ≤ y ∧ y < B64) (hx : 0 ≤ x ∧ x ≤ 1) :
    InB B64 (s.set k (subS a y x)) ∧ 0 ≤ subC a y x ∧ subC a y x ≤ 1 ∧ val B64 ((s.set k (subS a y x)).take (k + 1)) - B64 ^ (k + 1) * subC a y x = val B64 (l.take (k + 1)) - val B64 (m.take (k + 1)) := by
  have h1 := subC_range a y x
  refine ⟨hs.set _ (subS_range _ _ _), h1.1, h1.2, ?_⟩
  rw [val_take_succ _ _ k (by simp; omega), val_take_succ _ l k hk, ‹val B64 (m.take (k + 1)) = _›, List.take_set_of_le (Nat.le_refl _)]
  have e : (s.set k (subS a y x)).getD k 0 = subS a y x := by simp [List.getD_eq_getElem?_getD, show k < s.length by omega]
  have h2 := subS_subC ha hy hx
  rw [e, ‹l.getD k 0 = a›, Int.pow_succ]
  grind

theorem sub_done {s l m : List Int} {x : Int} (hs : InB B64 s) (hsl : s.length = l.length) (h0 : 0 ≤ x) (h1 : x ≤ 1) (hlm : m.length ≤ l.length) (hl : InB B64 l) (hle : val B64 m ≤ val B64 l) (hv : val B64 (s.take l.length) - B64 ^ l.length * x = val B64 (l.take l.length) - val B64 (m.take l.length)) :
    val B64 s = val B64 l - val B64 m := by
  rw [List.take_length, List.take_of_length_le hlm, List.take_of_length_le (by omega)] at hv
  have h2 := val_lt (by decide) hs
  rw [hsl] at h2
  have hx : x = 0 ∨ x = 1 := by omega
  rcases hx with rfl | rfl
  · omega
  · rw [Int.mul_one] at hv; omega

set_option maxRecDepth 10000 in
set_option maxHeartbeats 1000000 in
theorem nat_sub (A B : Option Addr) (c d : Nat) (l m : List Int) (w : World) (hl : InB B64 l) (hm : InB B64 m) (hlm : m.length ≤ l.length) (hle : val B64 m ≤ val B64 l) (hN : l.length ≤ 1099511627776) (hA : Rl w A l) (hB : Rl w B m) :
    Calls Try.prog 149 #[.slice A l.length c, .slice B m.length d] w fun e w' => ∃ v, e = .returned v ∧ Ol w' w.heap.size v (lm B64 (val B64 l - val B64 m).toNat) ∧ Below w.heap.size w w' := by
  have n2 := hB.len
  go_enter Try.func149, Try.ntmps149
  go_wp2_with (at_make; refine wp_make w.heap.size rfl rfl _ _ rfl l.length rfl rfl (by omega) (Below.refl _ _) (Nat.le_refl _) ?_; intro v1 w1 hO hb)
  go_loopw [6, 15] (fun t i wr => ∃ (k : Nat) (s : List Int) (x : Int), k ≤ l.length ∧ s.length = l.length ∧ InB B64 s ∧ 0 ≤ x ∧ x ≤ 1 ∧ Hid (val B64 (s.take k) - B64 ^ k * x = val B64 (l.take k) - val B64 (m.take k)) ∧ t = .int .u64 x ∧ i = .int .i64 k ∧ Ol wr w.heap.size v1 s ∧ Below w.heap.size w wr) (fun _ i _ => l.length - (intOf i).toNat)
  case atStart => exact ⟨0, _, 0, Nat.zero_le _, by simp, InB.rep (by decide) _, by omega, by omega, by simp [Hid], rfl, rfl, hO, hb⟩
  case round =>
    clear hO hb
    obtain ⟨k, s, x, hk, hs, hsB, hx0, hx1, hv, rfl, rfl, hO, hb⟩ := hrel
    have HS := Lib.hid hs
    clear hs
    by_cases hlt : k < l.length
    · obtain ⟨a1, y1, rfl, hc1, e1, r1, q1⟩ := Rl.get (Kd.C_below hA hb) hl k hlt
      have hks : k < s.length := by rw [HS.out]; omega
      obtain ⟨g, cap, rfl, hg, hgl⟩ := Ol.shape hO (by omega)
      obtain ⟨hc3, hc4⟩ := Ol.cellAt hO k (by rw [HS.out]; omega)
      by_cases hlt2 : k < m.length
      · obtain ⟨a2, y2, rfl, hc2, e2, r2, q2⟩ := Rl.get (Kd.C_below hB hb) hm k hlt2
        have Hadd := fun W => run_Sub64 y1 y2 x r1 ⟨r2, q2.out⟩ hx0 hx1 W
        have HSt := Lib.hid (sub_step (m := m) hsB HS.out k hlt y1 y2 e1.out (by rw [val_take_succ _ _ _ hlt2, e2.out]) hv.out ⟨r1, q1.out⟩ ⟨r2, q2.out⟩ ⟨hx0, hx1⟩)
        go_wp2
        exact ⟨⟨k + 1, _, _, by omega, by rw [List.length_set]; exact HS.out, HSt.out.1, HSt.out.2.1, HSt.out.2.2.1, Lib.hid HSt.out.2.2.2, rfl, by go_num, hO.put k _, hb.setCell hg _⟩, by simp [intOf]; omega⟩
      · have Hadd := fun W => run_Sub64 y1 0 x r1 (by decide) hx0 hx1 W
        have HSt := Lib.hid (sub_step (m := m) hsB HS.out k hlt y1 0 e1.out (take_all_succ _ (by omega)) hv.out ⟨r1, q1.out⟩ (by decide) ⟨hx0, hx1⟩)
        go_wp2
        exact ⟨⟨k + 1, _, _, by omega, by rw [List.length_set]; exact HS.out, HSt.out.1, HSt.out.2.1, HSt.out.2.2.1, Lib.hid HSt.out.2.2.2, rfl, by go_num, hO.put k _, hb.setCell hg _⟩, by simp [intOf]; omega⟩
    · obtain rfl : k = l.length := by omega
      have HF := Lib.hid (sub_done hsB HS.out hx0 hx1 hlm hl hle hv.out)
      obtain ⟨A1, c1, rfl⟩ := Kd.R_slice hO
      go_wp2_with (go_at_call 139; refine (nat_low' _ _ _ s w.heap.size _ rfl hsB hO).mono ?_; rintro e w' ⟨v, rfl, hv1, rfl⟩)
      go_ret
      exact ⟨_, rfl, by rw [← HF.out]; exact hv1, hb⟩

end Go.Proofs.Ytajahomfmcbmlaa.T
