/-
Long division (nat.divide), walked.
-/
import Derived.Test.YtajahomfmcbmlaaNat9
import Derived.StillTailTactics
namespace Go.Proofs.Ytajahomfmcbmlaa.T
open Go.RowKit Go.Proofs.YtajahomfmcbmlaaW.PrintWords Go.Proofs.YtajahomfmcbmlaaW.PrintLast Go.Proofs.YtajahomfmcbmlaaW.PrintMore
set_option linter.unusedVariables false

/-- 'copy(u, d)' into a row that is known whole. -/
theorem copy_limbs {w8 : World} {g m C : Nat} {s : List Int} {A : Option Addr} {c r : Nat} (hU : w8.heap[g]? = some (.cells (s.map (Value.int .u64)).toArray 50 (0, 0))) (hj : m = s.length) (hr : (Lm r).length ≤ m) (hA : Rl w8 A (Lm r)) :
    ∃ w9, (∀ ty, (Builtin.copy_ #[51, 51] ty #[.slice (some ⟨g, 0, none⟩) m C, .slice A (Lm r).length c]).run Try.prog w8 = .ok (.int .i64 (Lm r).length) w9) ∧
      w9.heap[g]? = some (.cells ((splice s 0 (Lm r)).map (Value.int .u64)).toArray 50 (0, 0)) ∧ w8.grownBy w9 (some g) := by
  have hsz : (Try.prog.info? 50).map (·.size) = some 1 := by kernel_rfl
  by_cases h0 : (Lm r).length = 0
  · refine ⟨w8, fun ty => ?_, ?_, World.grownBy.refl _ _⟩
    · rw [run_copy_none (P := Try.prog) _ 51 51 ty 50 _ A m C _ c Try.underlying51 hsz (by rw [h0]; simp), h0]; rfl
    · rw [hU]
      have : Lm r = [] := List.length_eq_zero_iff.1 h0
      simp [splice, this]
  · obtain ⟨ad, rfl, hc⟩ := hA.2.2 (by omega)
    obtain ⟨q1, q2⟩ := row_put hU 0 (Lm r) (by omega)
    refine ⟨_, fun ty => ?_, q1, q2⟩
    have := run_copy_cells (P := Try.prog) w8 51 51 ty 50 g 0 m C ad (Lm r).length c ((Lm r).map (Value.int .u64)) Try.underlying51 hsz (by rw [List.length_map]; exact (Nat.min_eq_left (by omega)).symm) ?_ (fun i hi => by rw [(row_cell hU (0 + i) (by simp at hi; omega)).1]; rfl) (fun i hi => (row_cell hU (0 + i) (by simp at hi; omega)).2) (fun v hv => by obtain ⟨z, _, rfl⟩ := List.mem_map.1 hv; rfl)
    · rw [this]; simp [goInt]
    · intro i v hv
      simp only [List.getElem?_map] at hv
      obtain ⟨z, hz1, rfl⟩ := Option.map_eq_some_iff.1 hv
      have hi := (List.getElem?_eq_some_iff.1 hz1).1
      obtain ⟨ad', e', hc'⟩ := Rl.at hA i hi
      obtain rfl : ad = ad' := by simpa using e'
      rw [hc']
      simp [List.getD_eq_getElem?_getD, hz1]

theorem splice_zero {m r : Nat} (h : (Lm r).length ≤ m) : splice (List.replicate m 0) 0 (Lm r) = restL r m := by
  simp [splice, restL]

set_option maxRecDepth 100000 in
set_option maxHeartbeats 4000000 in
theorem divide_small (A B : Option Addr) (c d : Nat) (a b : Nat) (w : World) (hab : a < b) (ha : (Lm a).length ≤ 274877906944) (hA : Rl w A (Lm a)) (hB : Rl w B (Lm b)) :
    Calls Try.prog 126 #[.slice A (Lm a).length c, .slice B (Lm b).length d] w fun e w' => ∃ v1 v2, e = .returned (.tuple #[v1, v2]) ∧ Ol w' w.heap.size v1 (Lm (a / b)) ∧ Ol w' w.heap.size v2 (Lm (a % b)) ∧ Below w.heap.size w w' := by
  have hc : cmpI a b = -1 := by unfold cmpI; rw [if_pos (by omega)]
  have h1 : Hid (a / b = 0 ∧ a % b = a) := ⟨Nat.div_eq_of_lt hab, Nat.mod_eq_of_lt hab⟩
  clear hab
  go_enter Try.func126, Try.ntmps126
  go_wp2_with fail
  refine (nat_cmp' rfl rfl hA hB).mono ?_
  rintro e w1 ⟨rfl, hb1⟩
  rw [hc]
  go_wp2_with fail
  refine (clone_limbs _ _ _ (Lm a) _ rfl (by omega) (hA.below hb1)).mono ?_
  rintro e w2 ⟨v, rfl, hv, hb2⟩
  go_wp2_with fail
  go_ret2
  exact ⟨_, _, rfl, by rw [h1.out.1]; simp only [Lm, lm_zero]; exact Kd.R_nil _ _ _ _ _, by rw [h1.out.2]; exact Kd.R_lower hv hb1.size, hb1.trans (hb2.mono hb1.size)⟩

set_option maxRecDepth 100000 in
set_option maxHeartbeats 4000000 in
theorem divide_one (A B : Option Addr) (c d : Nat) (a b : Nat) (w : World) (hab : b ≤ a) (hb1 : (Lm b).length = 1) (ha : (Lm a).length ≤ 274877906944) (hA : Rl w A (Lm a)) (hB : Rl w B (Lm b)) :
    Calls Try.prog 126 #[.slice A (Lm a).length c, .slice B (Lm b).length d] w fun e w' => ∃ v1 v2, e = .returned (.tuple #[v1, v2]) ∧ Ol w' w.heap.size v1 (Lm (a / b)) ∧ Ol w' w.heap.size v2 (Lm (a % b)) ∧ Below w.heap.size w w' := by
  obtain ⟨K, hK, hK0⟩ : ∃ K, cmpI a b = K ∧ 0 ≤ K := ⟨_, rfl, by unfold cmpI; split <;> (try split) <;> omega⟩
  have hbB : b < B64 := by have := lm_len_lt two_le_B64 b; rwa [hb1, Nat.pow_one] at this
  have hb0 : b ≠ 0 := fun e => by rw [e, Lm, lm_zero] at hb1; simp at hb1
  have hbl : Lm b = [(b : Int)] := by rw [Lm, lm_succ two_le_B64 hb0, Nat.mod_eq_of_lt hbB, Nat.div_eq_of_lt hbB, lm_zero]
  obtain ⟨b1, y, rfl, hc1, e1, y0, y1⟩ := Rl.get hB (inL b) 0 (by omega)
  have hy : y = b := by have := e1.out; rw [hbl] at this; simpa using this.symm
  have HB1 := Lib.hid hb1
  rw [hb1]
  clear hb1 hbl
  have h2 : Hid (val B64 (Lm a) % b = ((a % b : Nat) : Int) ∧ val B64 (Lm a) / b = ((a / b : Nat) : Int)) := by rw [valL]; exact ⟨by simp, by simp⟩
  have HAB := Lib.hid (And.intro hab (And.intro hbB hb0))
  clear hab hbB hb0 y1
  go_enter Try.func126, Try.ntmps126
  go_wp2_with fail
  refine (nat_cmp' rfl HB1.out.symm hA hB).mono ?_
  rintro e w1 ⟨rfl, hb1⟩
  rw [hK]
  clear hK
  have hc2 : w1.cell? b1 = some (.int .u64 y) := by
    have := (hb1.cell (World.block_lt_of_cell? w _ hc1)).trans hc1
    rwa [show b1.add 0 = b1 from by simp [go_sem]] at this
  subst hy
  have hAw : Rl w1 A (Lm a) := hA.below hb1
  have hS := Lib.hid (nat_short A c (Lm a) b w1 (inL a) (by have := HAB.out.2.2; omega) (by have := HAB.out.2.1; omega) (by omega) hAw)
  clear hAw
  go_wp2_with fail
  refine hS.out.mono ?_
  rintro e w2 ⟨v, rfl, hv, hb2⟩
  rw [h2.out.1]
  rw [h2.out.2] at hv
  have hB2 : Below w.heap.size w w2 := hb1.trans (hb2.mono hb1.size)
  go_wp2_with (first | ((with_reducible refine gate_dst (N := 36) rfl ?_); refine wp_lit w2.heap.size rfl rfl [((a % b : Nat) : Int)] ?hr (Below.refl _ _) (Nat.le_refl _) (by simp) ?_; (case hr => go_simp); intro v1 w3 hO1 hb3))
  obtain ⟨A1, c1, rfl⟩ := Kd.R_slice hO1
  refine (nat_low' _ _ _ [((a % b : Nat) : Int)] w2.heap.size _ rfl (fun z hz => ?_) hO1).mono ?_
  · simp only [List.mem_singleton] at hz
    subst hz
    have := HAB.out
    have := Nat.mod_lt a (show 0 < b by omega)
    have h64 : ((b : Nat) : Int) < B64 := by omega
    omega
  rintro e w' ⟨v2, rfl, hO2, rfl⟩
  go_wp2_with fail
  go_ret2
  exact ⟨_, _, rfl, Kd.R_lower (Kd.R_below hv hb3) hb1.size, hO2.conv hB2.size (by simp only [val_cons, val_nil, Int.mul_zero, Int.add_zero, Int.toNat_natCast]), hB2.trans (hb3.mono hB2.size)⟩

set_option maxRecDepth 100000 in
set_option maxHeartbeats 8000000 in
theorem divide_long (A B : Option Addr) (c d : Nat) (a b : Nat) (w : World) (hab : b ≤ a) (hb1 : 2 ≤ (Lm b).length) (ha : (Lm a).length ≤ 137438953472) (hA : Rl w A (Lm a)) (hB : Rl w B (Lm b)) :
    Calls Try.prog 126 #[.slice A (Lm a).length c, .slice B (Lm b).length d] w fun e w' => ∃ v1 v2, e = .returned (.tuple #[v1, v2]) ∧ Ol w' w.heap.size v1 (Lm (a / b)) ∧ Ol w' w.heap.size v2 (Lm (a % b)) ∧ Below w.heap.size w w' := by
  obtain ⟨K, hK, hK0⟩ : ∃ K, cmpI a b = K ∧ 0 ≤ K := ⟨_, rfl, by unfold cmpI; split <;> (try split) <;> omega⟩
  have hlen := len_le_of_le hab
  obtain ⟨bd, y, rfl, hc1, e1, y0, y1⟩ := Rl.get hB (inL b) ((Lm b).length - 1) (by omega)
  have yne : 0 < y := by
    rcases formL b with h | h
    · rw [h] at hb1; simp at hb1
    · have := e1.out; omega
  have HLZ : Hid (0 < y ∧ y < B64) := ⟨yne, y1.out⟩
  have HAB := Lib.hid hab
  have g1 : (((Lm b).length : Int) == 1) = false := by simp; omega
  have g2 : 0 ≤ ((Lm b).length : Int) - 1 := by omega
  clear hab y1
  go_enter Try.func126, Try.ntmps126
  go_wp2_with fail
  refine (nat_cmp' rfl rfl hA hB).mono ?_
  rintro e w1 ⟨rfl, hb⟩
  rw [hK]
  clear hK
  have hc2 : w1.cell? (bd.add ((Lm b).length - 1)) = some (.int .u64 y) := (hb.cell (World.block_lt_of_cell? w _ hc1)).trans hc1
  have hA1 := Lib.hid (hA.below hb)
  have hB1 := Lib.hid (hB.below hb)
  go_wp2_with fail
  refine (bits_LeadingZeros64 y HLZ.out _).mono ?_
  rintro e w' ⟨k, hk, rfl, hk1, hk2, rfl⟩
  go_wp2_with fail
  refine (nat_shl (some bd) d (Lm b) k w1 (inL b) hk (by omega) hB1.out).mono ?_
  rintro e w2 ⟨v, rfl, hv, hb2⟩
  obtain ⟨nl, alen, hL0⟩ := Ld.init e1.out (by omega) hk1.out hk2.out hk HAB.out
  have HL0 := Lib.hid hL0
  have NL := Lib.hid nl
  have AL := Lib.hid alen
  clear hL0 nl alen hk1 hk2 e1
  have eV : Hid (lm B64 (val B64 (Lm b) * 2 ^ k).toNat = Lm (b * 2 ^ k)) := by
    have e : ((2 ^ k : Nat) : Int) = 2 ^ k := by simp
    show _ = _
    rw [valL, ← e, ← Int.natCast_mul, Int.toNat_natCast]
  have eU : Hid (lm B64 (val B64 (Lm a) * 2 ^ k).toNat = Lm (a * 2 ^ k)) := by
    have e : ((2 ^ k : Nat) : Int) = 2 ^ k := by simp
    show _ = _
    rw [valL, ← e, ← Int.natCast_mul, Int.toNat_natCast]
  rw [eV.out] at hv
  obtain ⟨A1, c1, rfl⟩ := Kd.R_slice hv
  have hB2 : Below w.heap.size w w2 := hb.trans (hb2.mono hb.size)
  go_wp2_with ((with_reducible refine gate_dst (N := 51) rfl ?_); refine wp_make_exact rfl rfl _ _ rfl ((Lm a).length + 1) rfl rfl (by omega) ?_; intro w3 hg3 hz3 hU3)
  have hb3 : Below w2.heap.size w2 w3 := ⟨hg3.os, hg3.tape, hg3.output, hg3.size, fun i hi => hg3.block i hi (by simp)⟩
  refine (nat_shl A c (Lm a) k w3 (inL a) hk (by omega) (hA1.out.below (hb2.trans (hb3.mono hb2.size)))).mono ?_
  rintro e w4 ⟨v', rfl, hv', hb4⟩
  rw [eU.out] at hv'
  obtain ⟨A2, c2, rfl⟩ := Kd.R_slice hv'
  obtain ⟨w5, hcp, hU5, hg5⟩ := copy_limbs (w8 := w4) (g := w2.heap.size) (C := (Lm a).length + 1) (c := c2) (m := (Lm a).length + 1) ((hb4.block _ (by omega)).trans hU3) (by simp) AL.out (Kd.R_reads' hv').2.2
  rw [splice_zero AL.out] at hU5
  have HU5 := Lib.hid hU5
  clear hU5 hU3
  have hq : (((Lm a).length : Int) + 1) - ((Lm (b * 2 ^ k)).length : Int) = (((Lm a).length + 1 - (Lm b).length : Nat) : Int) := by have := NL.out; omega
  have HQ := Lib.hid hq
  clear hq
  have hbl : (Lm (b * 2 ^ k)).length ≤ (Lm a).length := by have := NL.out; omega
  have hB3 : Below w.heap.size w w3 := hB2.trans (hb3.mono hB2.size)
  have hB4 : Below w.heap.size w w4 := hB3.trans (hb4.mono hB3.size)
  have hB5 : Below w.heap.size w w5 := hB4.grown hg5 (hB4.size) (fun i hi => by injection hi with hi; subst hi; exact hB2.size)
  have hs5 : w2.heap.size < w5.heap.size := by have := hg5.size; have := hb4.size; omega
  have HS5 := Lib.hid hs5
  clear hs5 hz3
  have hv2 : Ow (fun i => i < w2.heap.size) w5 w.heap.size (.slice A1 (Lm (b * 2 ^ k)).length c1) (Lm (b * 2 ^ k)) := by
    have h1 : Ow (fun i => i < w2.heap.size) w2 w.heap.size (.slice A1 (Lm (b * 2 ^ k)).length c1) (Lm (b * 2 ^ k)) := Kd.R_mono (Kd.R_bound (Kd.R_lower hv hb.size)) (fun i hi => hi.2.2.1)
    exact Kd.R_grown (Kd.R_below (Kd.R_below h1 hb3) hb4) hg5 (fun i hi e => by injection e with e; omega)
  clear hv hv' hg5 hg3
  obtain ⟨M, hM⟩ : ∃ M, (Lm a).length + 1 - (Lm b).length = M := ⟨_, rfl⟩
  have HM := Lib.hid hM
  have hM1 : 1 ≤ M := by omega
  have hM2 : M ≤ 137438953473 := by omega
  rw [hM] at HQ
  clear hM
  go_wp2_with ((with_reducible refine gate_dst (N := 63) rfl ?_); refine wp_make w5.heap.size rfl rfl _ _ rfl M (congrArg (Value.int .i64) HQ.out) (congrArg (Value.int .i64) HQ.out) (by omega) (Below.refl _ _) (Nat.le_refl _) ?_; intro v3 w6 hq6 hb6; obtain ⟨gq, cq, rfl, hgq, _⟩ := Ow.shape hq6 (by rw [List.length_replicate]; omega); rw [List.length_replicate] at hq6 ⊢)
  have hB6 : Below w.heap.size w w6 := hB5.trans (hb6.mono hB5.size)
  have hq7 : Ow (fun i => w2.heap.size < i) w6 w.heap.size (.slice (some ⟨gq, 0, none⟩) M cq) (List.replicate M 0) := Kd.R_lower (Kd.R_mono (Kd.R_bound hq6) (fun i hi => by have := hi.2.1; have := HS5.out; omega)) hB5.size
  have HU6 : Hid (w6.heap[w2.heap.size]? = some (.cells ((restL (a * 2 ^ k) ((Lm a).length + 1)).map (Value.int .u64)).toArray 50 (0, 0))) := (hb6.block _ HS5.out).trans HU5.out
  have hv6 := Kd.R_below hv2 hb6
  have HL1 : Hid (Ld (a * 2 ^ k) (b * 2 ^ k) (Lm b).length ((Lm a).length + 1) M (restL (a * 2 ^ k) ((Lm a).length + 1)) (List.replicate M 0)) := by
    have := HL0.out
    rw [HM.out] at this
    exact this
  have HS6 : Hid (w2.heap.size < w6.heap.size) := Nat.lt_of_lt_of_le HS5.out hb6.size
  have Hg : Hid (w.heap.size ≤ w2.heap.size) := hB2.size
  clear hv2 hq6 HU5 HS5 HL0 hgq hb2 hb3 hb4 hb6 hB2 hB3 hB4 hB5 hcp hA1 hB1 hb hc1 hc2
  generalize w2.heap.size = g at HU6 hv6 hq7 HS6 Hg ⊢
  go_loopw [66] (fun t wr => ∃ (i : Nat) (u q : List Int), i ≤ M ∧ Hid (Ld (a * 2 ^ k) (b * 2 ^ k) (Lm b).length ((Lm a).length + 1) (M - i) u q) ∧ t = .int .i64 i ∧ Hid (wr.heap[g]? = some (.cells (u.map (Value.int .u64)).toArray 50 (0, 0))) ∧ Hid (g < wr.heap.size) ∧ Ow (fun i => i < g) wr w.heap.size (.slice A1 (Lm (b * 2 ^ k)).length c1) (Lm (b * 2 ^ k)) ∧ Ow (fun i => g < i) wr w.heap.size (.slice (some ⟨gq, 0, none⟩) M cq) q ∧ Below w.heap.size w wr) (fun t _ => M - (intOf t).toNat)
  case atStart => exact ⟨0, _, _, Nat.zero_le _, HL1, rfl, HU6, HS6, hv6, hq7, hB6⟩
  case round =>
    clear HL1 HU6 HS6 hv6 hq7 hB6
    obtain ⟨i, u, q, hi, HL, rfl, HU, HS, hv, hq, hB⟩ := hrel
    by_cases hlt : i < M
    · obtain ⟨J, hJ, hJ2⟩ : ∃ J : Nat, (M : Int) - 1 - i = J ∧ M - i = J + 1 := ⟨M - 1 - i, by omega, by omega⟩
      have HJ := Lib.hid hJ2
      clear hJ2
      have hJ3 : (J : Int) ≤ M := by omega
      have hJ4 : (J : Int) + (Lm (b * 2 ^ k)).length + 1 ≤ ((Lm a).length : Int) + 1 := by have := NL.out; have := HM.out; have := HJ.out; omega
      have hLJ : Ld (a * 2 ^ k) (b * 2 ^ k) (Lm b).length ((Lm a).length + 1) (J + 1) u q := by rw [← HJ.out]; exact HL.out
      obtain ⟨s0, s1, hL2⟩ := hLJ.step NL.out (by omega)
      obtain ⟨Q, hQ⟩ := Int.eq_ofNat_of_zero_le s0
      have HL2 := Lib.hid (And.intro hQ (And.intro s1 hL2))
      have HUL := Lib.hid (And.intro hLJ.uB (And.intro hLJ.ul (And.intro hLJ.ql hLJ.qB)))
      clear hLJ s0 s1 hL2 hQ
      go_wp2_with fail
      rw [show J + (Lm (b * 2 ^ k)).length + 1 - J = (Lm (b * 2 ^ k)).length + 1 from by omega]
      refine (nat_step g J (Lm (b * 2 ^ k)).length _ _ u _ (b * 2 ^ k) Q wr HUL.out.1 rfl (by have := NL.out; omega) (by have := HUL.out.2.1; omega) (by have := HUL.out.2.1; omega) HU.out (Kd.R_reads' hv).2.2 (by rw [NL.out]; exact HL2.out.1) (by have := HL2.out.2.1; rw [HL2.out.1] at this; exact this)).mono ?_
      rintro e w7 ⟨rfl, hU7, hg7⟩
      rw [NL.out] at hU7
      have hq8 := Kd.R_grown hq hg7 (fun i hi e => by injection e with e; omega)
      have hv8 := Kd.R_grown hv hg7 (fun i hi e => by injection e with e; omega)
      have hB8 : Below w.heap.size w w7 := hB.grown hg7 hB.size (fun i hi => by injection hi with hi; subst hi; exact Hg.out)
      obtain ⟨hc3, hc4⟩ := Ol.cellAt (Ow.ol hq8) J (by have := HUL.out.2.2.1; have := HM.out; have := HJ.out; omega)
      have hne : g < gq := hq8.1 gq (by simp [Value.ownBlock])
      have HU7 := Lib.hid hU7
      have HS7 : Hid (g < w7.heap.size) := Nat.lt_of_lt_of_le HS.out hg7.size
      clear hU7 hg7 hq hv hB
      go_wp2_with fail
      refine ⟨⟨i + 1, splice u J (restL (val B64 ((u.drop J).take ((Lm b).length + 1)) % ((b * 2 ^ k : Nat) : Int)).toNat ((Lm b).length + 1)), _, by omega, ?_, by go_num, ?_, ?_, Kd.R_far hv8 (fun i hi => by show i ≠ gq; omega) _, Ow.put hq8 J _, hB8.setCell (by have := Hg.out; show _ ≤ gq; omega) _⟩, by simp [intOf]; omega⟩
      · have := HL2.out.2.2
        rw [HL2.out.1] at this
        rw [show M - (i + 1) = J from by have := HJ.out; omega]
        exact this
      · exact (Below.heap_setCell _ _ _ _ (by show g ≠ gq; omega)).trans HU7.out
      · have := HS7.out
        show _ < _
        simp [World.setCell]; exact this
    · obtain rfl : i = M := by omega
      have hLf := HL.out
      rw [Nat.sub_self] at hLf
      obtain ⟨f1, f2⟩ := hLf.fin
      have HUL := Lib.hid (And.intro hLf.uB (And.intro hLf.ul (And.intro hLf.ql hLf.qB)))
      have HF := Lib.hid (And.intro f1 f2)
      clear hLf f1 f2 HL hv
      have hu : Ow (fun j => j = g) wr w.heap.size (.slice (some ⟨g, 0, none⟩) ((Lm a).length + 1) ((Lm a).length + 1)) u := by
        have := row_own HU.out Hg.out (by have := HUL.out.2.1; omega)
        rw [HUL.out.2.1] at this; exact this
      go_wp2_with fail
      refine (low_row _ _ _ _ u w.heap.size _ HUL.out.2.1.symm HUL.out.1 hu).mono ?_
      rintro e w' ⟨v, rfl, hr, rfl⟩
      have hX : (val B64 u).toNat = a % b * 2 ^ k := by rw [HF.out.2, Int.toNat_natCast]
      rw [hX] at hr
      clear hX hu HU
      obtain ⟨A3, c3, rfl⟩ := Kd.R_slice hr
      have hm : (Lm (a % b * 2 ^ k)).length ≤ 274877906944 := by
        have h1 := len_of_val HUL.out.1
        rw [HF.out.2, Int.toNat_natCast] at h1
        have := HUL.out.2.1
        omega
      obtain ⟨m, hmm⟩ : ∃ m, (lm B64 (a % b * 2 ^ k)).length = m := ⟨_, rfl⟩
      have hr' : Ow (fun j => j = g) wr w.heap.size (.slice A3 m c3) (Lm (a % b * 2 ^ k)) := by rw [← hmm]; exact hr
      rw [hmm] at hm ⊢
      have HMM := Lib.hid hmm
      clear hr hmm
      go_wp2_with fail
      go_loopw [91] (fun t wr => ∃ (p : Nat) (s : List Int), p ≤ m ∧ Hid (Sr (a % b) k m (Lm (a % b * 2 ^ k)) s p) ∧ t = .int .i64 p ∧ Ow (fun j => j = g) wr w.heap.size (.slice A3 m c3) s ∧ Ow (fun i => g < i) wr w.heap.size (.slice (some ⟨gq, 0, none⟩) i cq) q ∧ Below w.heap.size w wr) (fun t _ => m - (intOf t).toNat)
      case atStart => exact ⟨0, _, Nat.zero_le _, Sr.start HMM.out, rfl, hr', hq, hB⟩
      case round =>
        clear hr' hq hB HS
        obtain ⟨p, s, hp, HSr, rfl, hr, hq, hB⟩ := hrel
        by_cases hlt : p < m
        · have hps : p < s.length := by rw [HSr.out.sl]; exact hlt
          obtain ⟨g', c', e', hg1, hg2, rfl⟩ := Ow.shape hr (by omega)
          rw [HSr.out.sl] at e'
          injection e' with e1 e2 e3
          subst e1
          subst e3
          obtain ⟨hc3, hc4⟩ := Ol.cellAt (Ow.ol hr) p hps
          have hx0 := HSr.out.sB.getD (by decide) p
          obtain ⟨x, hx⟩ : ∃ x, s.getD p 0 = x := ⟨_, rfl⟩
          rw [hx] at hc3 hx0
          have HX := Lib.hid (And.intro hx hx0)
          clear hx hx0
          obtain ⟨xa, hxa⟩ : ∃ z, x / 2 ^ k = z := ⟨_, rfl⟩
          by_cases hlt2 : p + 1 < m
          · have hps2 : p + 1 < s.length := by rw [HSr.out.sl]; exact hlt2
            obtain ⟨hc5, hc6⟩ := Ol.cellAt (Ow.ol hr) (p + 1) hps2
            obtain ⟨y, hy⟩ : ∃ x, s.getD (p + 1) 0 = x := ⟨_, rfl⟩
            have hy0 := HSr.out.sB.getD (by decide) (p + 1)
            rw [hy] at hc5 hy0
            have HY := Lib.hid (And.intro hy hy0)
            clear hy hy0
            obtain ⟨yb, hyb⟩ : ∃ z, IntKind.u64.wrap (y * 2) = z := ⟨_, rfl⟩
            obtain ⟨yc, hyc⟩ : ∃ z, IntKind.u64.wrap (yb * 2 ^ (63 - k)) = z := ⟨_, rfl⟩
            obtain ⟨z, hz⟩ : ∃ z, bits .or .u64 xa yc = z := ⟨_, rfl⟩
            go_wp2_with fail
            refine wp_region_still_tail 16 (by kernel_rfl) (by kernel_rfl) ?_
            simp only [List.take_succ_cons, List.take_zero, List.drop_succ_cons, List.drop_zero]
            have hr2 := Kd.R_drew (Ow.put hr p xa)
            have hq2 := Kd.R_drew (Kd.R_far hq (p := ⟨g', p, none⟩) (fun i hi => by show i ≠ g'; omega) (.int .u64 xa))
            have hB2 : Below w.heap.size w (wr.setCell ⟨g', p, none⟩ (.int .u64 xa)).drew := (hB.setCell (p := ⟨g', p, none⟩) Hg.out _).drew
            change wpStill _ _ ((wr.setCell ⟨g', p, none⟩ (.int .u64 xa)).drew) (fun a' => wpList _ _ _ _ a' ((wr.setCell ⟨g', p, none⟩ (.int .u64 xa)).drew)) _ _
            clear hc3 hc4 hc5 hc6
            generalize (wr.setCell ⟨g', p, none⟩ (.int .u64 xa)).drew = W at hr2 hq2 hB2 ⊢
            obtain ⟨hd3, hd4⟩ := Ol.cellAt (Ow.ol hr2) p (by rw [List.length_set]; exact hps)
            obtain ⟨hd5, hd6⟩ := Ol.cellAt (Ow.ol hr2) (p + 1) (by rw [List.length_set]; exact hps2)
            rw [show (s.set p xa).getD p 0 = xa from by simp [List.getD_eq_getElem?_getD, hps]] at hd3
            rw [getD_set_ne (by omega), HY.out.1] at hd5
            have hw : IntKind.i64.wrap ((p : Int) + 1) = (p : Int) + 1 := IntWalk.i64_in _ ⟨by omega, by omega⟩
            have hw2 : 0 ≤ (p : Int) + 1 := by omega
            repeat still_step
            refine wpStill_nil ?_
            go_wp2_with fail
            rw [Nat.min_eq_left (show 63 - k ≤ 64 by omega), hyc, hz]
            refine ⟨⟨p + 1, (s.set p xa).set p z, by omega, ?_, by go_num, Ow.put hr2 p z, Kd.R_far hq2 (fun i hi => by show i ≠ g'; omega) _, hB2.setCell Hg.out _⟩, by simp [intOf]; omega⟩
            obtain ⟨t1, t2⟩ := shr_limb hk HX.out.2 HY.out.2 hxa hyb hyc hz
            have e1 : s.getD p 0 = (Lm (a % b * 2 ^ k)).getD p 0 := by
              have := congrArg (fun l => List.getD l 0 0) HSr.out.rest
              simpa [List.getD_eq_getElem?_getD] using this
            have e2 : s.getD (p + 1) 0 = (Lm (a % b * 2 ^ k)).getD (p + 1) 0 := by
              have := congrArg (fun l => List.getD l 1 0) HSr.out.rest
              simpa [List.getD_eq_getElem?_getD] using this
            rw [List.set_set]
            exact HSr.out.step hk HMM.out hlt z (by rw [← e1, ← e2, HX.out.1, HY.out.1]; exact t1) t2
          · go_wp2_with fail
            refine ⟨⟨p + 1, s.set p xa, by omega, ?_, by go_num, Ow.put hr p xa, Kd.R_far hq (fun i hi => by show i ≠ g'; omega) _, hB.setCell Hg.out _⟩, by simp [intOf]; omega⟩
            have e1 : s.getD p 0 = (Lm (a % b * 2 ^ k)).getD p 0 := by
              have := congrArg (fun l => List.getD l 0 0) HSr.out.rest
              simpa [List.getD_eq_getElem?_getD] using this
            have e2 : (Lm (a % b * 2 ^ k)).getD (p + 1) 0 = 0 := by
              have := HMM.out
              rw [List.getD_eq_getElem?_getD, List.getElem?_eq_none (by show (lm B64 _).length ≤ _; omega)]; rfl
            refine HSr.out.step hk HMM.out hlt xa (by rw [e2, ← e1, HX.out.1, hxa]; simp) ?_
            have := HX.out.2
            have hP : (0 : Int) < 2 ^ k := Int.pow_pos (by omega)
            have h2 : xa ≤ x := by rw [← hxa]; exact Int.ediv_le_self _ this.1
            exact ⟨by rw [← hxa]; exact Int.ediv_nonneg this.1 (by omega), by omega⟩
        · obtain rfl : p = m := by omega
          have hfin := HSr.out.fin HMM.out
          have HV := Lib.hid (And.intro hfin trivial)
          have HSL := Lib.hid (And.intro HSr.out.sl HSr.out.sB)
          clear hfin HSr
          go_wp2_with fail
          refine (low_row _ _ _ _ q w.heap.size _ (by rw [HUL.out.2.2.1, HM.out]) HUL.out.2.2.2 hq).mono ?_
          rintro e w' ⟨v1, rfl, hq9, rfl⟩
          go_wp2_with fail
          refine (low_row _ _ _ _ s w.heap.size _ HSL.out.1.symm HSL.out.2 hr).mono ?_
          rintro e w' ⟨v2, rfl, hr9, rfl⟩
          go_wp2_with fail
          go_ret2
          refine ⟨_, _, rfl, ?_, ?_, hB⟩
          · have := Ow.ol hq9
            rwa [HF.out.1, Int.toNat_natCast] at this
          · have := Ow.ol hr9
            rwa [HV.out.1, Int.toNat_natCast] at this

/-- nat.divide: both the quotient and the rest, in lists of one's own. -/
theorem nat_divide (A B : Option Addr) (m n c d : Nat) (a b : Nat) (w : World) (hm : m = (Lm a).length) (hn : n = (Lm b).length) (hb : b ≠ 0) (ha : m ≤ 137438953472) (hA : Rl w A (Lm a)) (hB : Rl w B (Lm b)) :
    Calls Try.prog 126 #[.slice A m c, .slice B n d] w fun e w' => ∃ v1 v2, e = .returned (.tuple #[v1, v2]) ∧ Ol w' w.heap.size v1 (Lm (a / b)) ∧ Ol w' w.heap.size v2 (Lm (a % b)) ∧ Below w.heap.size w w' := by
  subst hm hn
  by_cases hab : a < b
  · exact divide_small A B c d a b w hab (by omega) hA hB
  · have : (Lm b).length ≠ 0 := fun e => by
      have h := lm_len_lt two_le_B64 b
      rw [show (lm B64 b).length = 0 from e, Nat.pow_zero] at h
      omega
    by_cases h1 : (Lm b).length = 1
    · exact divide_one A B c d a b w (by omega) h1 (by omega) hA hB
    · exact divide_long A B c d a b w (by omega) (by omega) ha hA hB
end Go.Proofs.Ytajahomfmcbmlaa.T
