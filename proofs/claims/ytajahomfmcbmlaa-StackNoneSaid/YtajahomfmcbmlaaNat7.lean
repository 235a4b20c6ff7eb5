/-
One step of a long division (nat.step).
-/
import Derived.Test.YtajahomfmcbmlaaNat6
import Derived.Laws.CopyOwn
import Derived.Lib.SliceRun
namespace Go.Proofs.Ytajahomfmcbmlaa.T
open Go.RowKit Go.Proofs.YtajahomfmcbmlaaW.PrintWords Go.Proofs.YtajahomfmcbmlaaW.PrintLast Go.Proofs.YtajahomfmcbmlaaW.PrintMore
set_option linter.unusedVariables false

theorem val_top2 (B : Int) (l : List Int) (n : Nat) (hn : l.length = n + 1) (h1 : 1 ≤ n) : val B l = val B (l.take (n - 1)) + B ^ (n - 1) * (l.getD n 0 * B + l.getD (n - 1) 0) := by
  have a := val_take_drop B l (n - 1) (by omega)
  rw [val_drop_step B l (n - 1) (by omega), show n - 1 + 1 = n from by omega, val_drop_step B l n (by omega), show n + 1 = l.length from by omega, List.drop_length] at a
  rw [a, val_nil]; grind
theorem val_top1 (B : Int) (l : List Int) (n : Nat) (hn : l.length = n) (h1 : 1 ≤ n) : val B l = val B (l.take (n - 1)) + B ^ (n - 1) * l.getD (n - 1) 0 := by
  have a := val_take_drop B l (n - 1) (by omega)
  rw [val_drop_step B l (n - 1) (by omega), show n - 1 + 1 = l.length from by omega, List.drop_length] at a
  rw [a, val_nil]; grind

/-- The guess out of the highest limbs is not below the quotient. -/
theorem guess_ge {u v : List Int} {n : Nat} {q r : Int} (hu : InB B64 u) (hv : InB B64 v) (hn : u.length = n + 1) (hvn : v.length = n) (h1 : 1 ≤ n) (he : u.getD n 0 * B64 + u.getD (n - 1) 0 = q * v.getD (n - 1) 0 + r) (hr0 : 0 ≤ r) (hr1 : r < v.getD (n - 1) 0) (hv0 : 0 < val B64 v) : val B64 u / val B64 v ≤ q := by
  have a := val_top2 B64 u n hn h1
  have b := val_top1 B64 v n hvn h1
  have c := val_lt (by decide) (hu.take (n - 1))
  have d := val_nonneg (by decide) (hv.take (n - 1))
  have e := val_nonneg (by decide) (hu)
  rw [List.length_take, Nat.min_eq_left (by omega)] at c
  have hP : (0 : Int) < B64 ^ (n - 1) := Int.pow_pos (by decide)
  rw [he] at a
  generalize v.getD (n - 1) 0 = t at *
  generalize (B64 : Int) ^ (n - 1) = P at *
  rcases Int.lt_or_le q (val B64 u / val B64 v) with h | h
  · have k1 : (q + 1) * val B64 v ≤ val B64 u / val B64 v * val B64 v := Int.mul_le_mul_of_nonneg_right (by omega) (by omega)
    have k2 := Int.mul_ediv_add_emod (val B64 u) (val B64 v)
    have k3 := Int.emod_nonneg (val B64 u) (show val B64 v ≠ 0 by omega)
    have k4 : val B64 u / val B64 v * val B64 v = val B64 v * (val B64 u / val B64 v) := Int.mul_comm _ _
    have q0 : 0 ≤ q + 1 := by
      have : 0 ≤ q := by
        rcases Int.lt_or_le q 0 with h' | h'
        · have e1 := hu.getD (by decide) n
          have e2 := hu.getD (by decide) (n - 1)
          have := Int.mul_le_mul_of_nonneg_right (show q ≤ -1 by omega) (show 0 ≤ t by omega)
          have := Int.mul_nonneg e1.1 (show (0 : Int) ≤ B64 by decide)
          omega
        · exact h'
      omega
    have k5 : (q + 1) * (P * t) ≤ (q + 1) * val B64 v := Int.mul_le_mul_of_nonneg_left (by omega) q0
    have k6 : P * (q * t + r + 1) ≤ P * ((q + 1) * t) := Int.mul_le_mul_of_nonneg_left (by rw [Int.add_mul, Int.one_mul]; omega) (by omega)
    have k7 : (q + 1) * (P * t) = P * ((q + 1) * t) := by grind
    have k8 : P * (q * t + r + 1) = P * (q * t + r) + P := by rw [Int.mul_add, Int.mul_one]
    omega
  · exact h

/-- A row of limbs that is known whole. -/
theorem row_cell {w : World} {g : Nat} {s : List Int} (h : w.heap[g]? = some (.cells (s.map (Value.int .u64)).toArray 50 (0, 0))) (i : Nat) (hi : i < s.length) : w.cell? ⟨g, i, none⟩ = some (.int .u64 (s.getD i 0)) ∧ w.frozen? ⟨g, i, none⟩ = false := by
  constructor
  · simp [World.cell?, h, List.getD_eq_getElem?_getD, List.getElem?_eq_getElem hi]
  · simp [World.frozen?, h]
theorem row_reads {w : World} {g : Nat} {s : List Int} (h : w.heap[g]? = some (.cells (s.map (Value.int .u64)).toArray 50 (0, 0))) (j n : Nat) (hn : j + n ≤ s.length) (hm : s.length ≤ 1099511627776) : Rl w (some ⟨g, j, none⟩) ((s.drop j).take n) := by
  refine Kd.C_of_reads (enc := Value.int .u64) (d := 0) (h1 := fun _ => rfl) ⟨rfl, by simp; omega, fun _ => ⟨_, rfl, fun i hi => ?_⟩⟩
  simp only [List.length_take, List.length_drop] at hi
  have e : (⟨g, j, none⟩ : Addr).add i = ⟨g, j + i, none⟩ := by unfold Addr.add; simp
  rw [e, (row_cell h (j + i) (by omega)).1]
  simp [List.getD_eq_getElem?_getD, List.getElem?_drop, show i < n by omega]

/-- What is written into a row that is known whole. -/
theorem row_put {w : World} {g : Nat} {s : List Int} (h : w.heap[g]? = some (.cells (s.map (Value.int .u64)).toArray 50 (0, 0))) (j : Nat) (d : List Int) (hd : j + d.length ≤ s.length) :
    (w.setCells g j (d.map (Value.int .u64))).heap[g]? = some (.cells ((splice s j d).map (Value.int .u64)).toArray 50 (0, 0)) ∧ w.grownBy (w.setCells g j (d.map (Value.int .u64))) (some g) := by
  obtain ⟨cur, h1, h2, h3⟩ := setCells_row (d.map (Value.int .u64)) j w _ h (by simpa using hd)
  obtain ⟨a1, a2, a3, a4⟩ := setCells_same g (d.map (Value.int .u64)) j w
  refine ⟨?_, ⟨a1, a2, a3, by omega, fun k hk hne => setCells_far _ _ k (fun e => hne (by rw [e]))⟩⟩
  rw [h1]
  have : cur = ((splice s j d).map (Value.int .u64)).toArray := by
    apply Array.toList_inj.1
    rw [h3]; simp [splice, List.map_append, List.map_take, List.map_drop]
  rw [this]

theorem quiet_of2 {P : Program} {f : FuncId} {args : Array Value} {w : World} {k n : Nat} {v : Value}
    (h : Calls P f args (w.drewN (k + n)) fun e w' => e = .returned v ∧ ∃ m, w' = (w.drewN (k + n)).drewN m) : Calls P f args (w.drewN (k + n)) fun e w'' => e = .returned v ∧ ∃ m, w'' = w.drewN (k + m) :=
  h.mono fun _ _ ⟨he, m, hm⟩ => ⟨he, n + m, by rw [hm, World.drewN_drewN, Nat.add_assoc]⟩
def dQ (x l y : Int) : Int := (x * B64 + l) / y
def dR (x l y : Int) : Int := (x * B64 + l) % y
theorem bits_Div64' (x l y : Int) (hx : 0 ≤ x) (hxy : x < y) (hl : 0 ≤ l ∧ l < B64) (hy : y < B64) (w : World) :
    Calls Try.prog 146 #[.int .u64 x, .int .u64 l, .int .u64 y] w fun e w' => e = .returned (.tuple #[.int .u64 (dQ x l y), .int .u64 (dR x l y)]) ∧ ∃ n, w' = w.drewN n := by
  refine (bits_Div64 x l y hx hxy hl hy w).mono ?_
  rintro e w' ⟨q, r, rfl, h, h0, h1, h2⟩
  have h := h.out
  have e1 : dQ x l y = q := by unfold dQ; rw [h, Int.add_comm, Int.add_mul_ediv_right _ _ (by omega), Int.ediv_eq_zero_of_lt h0 h1, Int.zero_add]
  have e2 : dR x l y = r := by unfold dR; rw [h, Int.add_comm, Int.add_mul_emod_self_right, Int.emod_eq_of_lt h0 h1]
  exact ⟨by rw [e1, e2], h2⟩
theorem dQ_dR (x l y : Int) (hy : 0 < y) : x * B64 + l = dQ x l y * y + dR x l y ∧ 0 ≤ dR x l y ∧ dR x l y < y :=
  ⟨by unfold dQ dR; rw [Int.mul_comm _ y]; exact (Int.mul_ediv_add_emod _ _).symm, Int.emod_nonneg _ (by omega), Int.emod_lt_of_pos _ hy⟩

def top64 : Int := 18446744073709551615
theorem nat_mul' {A B : Option Addr} {x y c d : Nat} {l m : List Int} {w : World} (hx : x = l.length) (hy : y = m.length) (hl : InB B64 l) (hm : InB B64 m) (hN : l.length + m.length ≤ 1099511627776) (hA : Rl w A l) (hB : Rl w B m) :
    Calls Try.prog 148 #[.slice A x c, .slice B y d] w fun e w' => ∃ v, e = .returned v ∧ Ol w' w.heap.size v (lm B64 (val B64 l * val B64 m).toNat) ∧ Below w.heap.size w w' := by
  subst hx; subst hy; exact nat_mul A B c d l m w hl hm hN hA hB
theorem nat_sub' {A B : Option Addr} {x y c d : Nat} {l m : List Int} {w : World} (hx : x = l.length) (hy : y = m.length) (hl : InB B64 l) (hm : InB B64 m) (hlm : m.length ≤ l.length) (hle : val B64 m ≤ val B64 l) (hN : l.length ≤ 1099511627776) (hA : Rl w A l) (hB : Rl w B m) :
    Calls Try.prog 149 #[.slice A x c, .slice B y d] w fun e w' => ∃ v, e = .returned v ∧ Ol w' w.heap.size v (lm B64 (val B64 l - val B64 m).toNat) ∧ Below w.heap.size w w' := by
  subst hx; subst hy; exact nat_sub A B c d l m w hl hm hlm hle hN hA hB
theorem nat_cmp' {A B : Option Addr} {x y c d : Nat} {a b : Nat} {w : World} (hx : x = (Lm a).length) (hy : y = (Lm b).length) (hA : Rl w A (Lm a)) (hB : Rl w B (Lm b)) :
    Calls Try.prog 137 #[.slice A x c, .slice B y d] w fun e w' => e = .returned (.int .i64 (cmpI a b)) ∧ Below w.heap.size w w' := by
  subst hx; subst hy
  have := nat_cmp A B c d _ _ w (inL a) (inL b) (formL a) (formL b) hA hB
  simp only [valL] at this; exact this

/-- What stands of a list behind a step: the rest, and noughts. -/
def restL (r n : Nat) : List Int := Lm r ++ List.replicate (n - (Lm r).length) 0

theorem splice_rest {s r : List Int} {j m : Nat} (hj : j + m ≤ s.length) (hr : r.length ≤ m) : splice (splice s j (List.replicate m 0)) j r = splice s j (r ++ List.replicate (m - r.length) 0) := by
  unfold splice
  have e1 : (s.take j ++ (List.replicate m 0 ++ s.drop (j + (List.replicate m (0 : Int)).length))).take j = s.take j := by
    rw [List.take_append_of_le_length (by simp; omega), List.take_of_length_le (by simp; omega)]
  have e2 : (s.take j ++ (List.replicate m 0 ++ s.drop (j + (List.replicate m (0 : Int)).length))).drop (j + r.length) = List.replicate (m - r.length) 0 ++ s.drop (j + m) := by
    rw [List.drop_append, List.drop_of_length_le (by simp; omega), List.nil_append, List.length_take, Nat.min_eq_left (by omega), show j + r.length - j = r.length from by omega, List.drop_append_of_le_length (by simp; omega), List.drop_replicate, List.length_replicate]
  rw [e1, e2, List.length_append, List.length_replicate, show j + (r.length + (m - r.length)) = j + m from by omega, List.append_assoc]

theorem len_of_val {l : List Int} (h : InB B64 l) : (Lm (val B64 l).toNat).length ≤ l.length := by
  refine lm_len_le two_le_B64 _ _ ?_
  have h1 := val_lt (by decide) h
  have h2 := val_nonneg (by decide) h
  have h3 : ((B64 ^ l.length : Nat) : Int) = (B64 : Int) ^ l.length := by simp
  rw [← h3] at h1
  omega
theorem Ol.base {w : World} {base n c : Nat} {ad : Addr} {l : List Int} (h : Ol w base (.slice (some ad) n c) l) : base ≤ ad.block := Kd.R_base h ad.block (by simp [Value.ownBlock])
theorem cmpI_le {x y : Int} : cmpI x y ≤ 0 ↔ x ≤ y := by unfold cmpI; split <;> (try split) <;> omega

/-- 'clear(u)', 'copy(u, d)' over a cut of a row that is known whole. -/
theorem clear_copy {w7 : World} {g j m C : Nat} {s : List Int} {A : Option Addr} {c r : Nat} (hU : w7.heap[g]? = some (.cells (s.map (Value.int .u64)).toArray 50 (0, 0))) (hm : 0 < m) (hj : j + m ≤ s.length) (hr : (Lm r).length ≤ m) (hA : Rl w7 A (Lm r)) (hAg : ∀ ad, A = some ad → ad.block ≠ g) :
    ∃ w8 w9, (∀ ty, (Builtin.clear_ #[51] ty #[.slice (some ⟨g, j, none⟩) m C]).run Try.prog w7 = .ok (.tuple #[]) w8) ∧
      (∀ ty, (Builtin.copy_ #[51, 51] ty #[.slice (some ⟨g, j, none⟩) m C, .slice A (Lm r).length c]).run Try.prog w8 = .ok (.int .i64 (Lm r).length) w9) ∧
      w9.heap[g]? = some (.cells ((splice s j (restL r m)).map (Value.int .u64)).toArray 50 (0, 0)) ∧ w7.grownBy w9 (some g) := by
  have hz : ∀ w, (zeroValue 50).run Try.prog w = .ok (.int .u64 0) w := fun w => by kernel_rfl
  have hsz : (Try.prog.info? 50).map (·.size) = some 1 := by kernel_rfl
  have hcl := fun ty => Lib.run_clear_slice (P := Try.prog) w7 51 50 ty (.int .u64 0) Try.underlying51 hz rfl rfl g j m C hm (fun i hi => by rw [(row_cell hU (j + i) (by omega)).1]; rfl) (fun i hi => (row_cell hU (j + i) (by omega)).2)
  have e0 : List.replicate m (Value.int .u64 0) = (List.replicate m (0 : Int)).map (Value.int .u64) := by simp
  obtain ⟨p1, p2⟩ := row_put hU j (List.replicate m 0) (by simp; omega)
  rw [e0] at hcl
  refine ⟨w7.setCells g j ((List.replicate m (0 : Int)).map (Value.int .u64)), ?_⟩
  by_cases h0 : (Lm r).length = 0
  · refine ⟨_, hcl, fun ty => ?_, ?_, p2⟩
    · rw [run_copy_none (P := Try.prog) _ 51 51 ty 50 _ A m C _ c Try.underlying51 hsz (by rw [h0]; simp), h0]; rfl
    · rw [p1]
      have : Lm r = [] := List.length_eq_zero_iff.1 h0
      simp [restL, this]
  · obtain ⟨ad, rfl, hc⟩ := hA.2.2 (by omega)
    have hb1 := hAg ad rfl
    obtain ⟨q1, q2⟩ := row_put p1 j (Lm r) (by rw [length_splice _ _ _ (by simp; omega)]; omega)
    refine ⟨_, hcl, fun ty => ?_, ?_, p2.trans q2⟩
    · have := run_copy_cells (P := Try.prog) _ 51 51 ty 50 g j m C ad (Lm r).length c ((Lm r).map (Value.int .u64)) Try.underlying51 hsz (by rw [List.length_map]; exact (Nat.min_eq_left (by omega)).symm) ?_ (fun i hi => by rw [(row_cell p1 (j + i) (by rw [length_splice _ _ _ (by simp; omega)]; simp at hi; omega)).1]; rfl) (fun i hi => (row_cell p1 (j + i) (by rw [length_splice _ _ _ (by simp; omega)]; simp at hi; omega)).2) (fun v hv => by obtain ⟨z, _, rfl⟩ := List.mem_map.1 hv; rfl)
      · rw [this]; simp [goInt]
      · intro i v hv
        simp only [List.getElem?_map] at hv
        obtain ⟨z, hz1, rfl⟩ := Option.map_eq_some_iff.1 hv
        have hi := (List.getElem?_eq_some_iff.1 hz1).1
        obtain ⟨ad', e', hc'⟩ := Rl.at hA i hi
        obtain rfl : ad = ad' := by simpa using e'
        have hbl : (ad.add i).block = ad.block := by unfold Addr.add; split <;> rfl
        rw [World.cell?_of_block (w := w7) (by rw [hbl]; exact setCells_far _ _ _ hb1), hc']
        simp [List.getD_eq_getElem?_getD, hz1]
    · rw [q1, splice_rest (by omega) hr]; rfl

set_option maxRecDepth 10000 in
set_option maxHeartbeats 4000000 in
theorem nat_step (g j n C cv : Nat) (s : List Int) (V : Option Addr) (v q : Nat) (w : World) (hs : InB B64 s) (hn : (Lm v).length = n) (hn1 : 1 ≤ n) (hj : j + n + 1 ≤ s.length) (hN : s.length ≤ 274877906944)
    (hU : w.heap[g]? = some (.cells (s.map (Value.int .u64)).toArray 50 (0, 0))) (hV : Rl w V (Lm v)) (hq : val B64 ((s.drop j).take (n + 1)) / v = q) (hqB : (q : Int) < B64) :
    Calls Try.prog 142 #[.slice (some ⟨g, j, none⟩) (n + 1) C, .slice V n cv] w fun e w' => e = .returned (.int .u64 q) ∧
      w'.heap[g]? = some (.cells ((splice s j (restL (val B64 ((s.drop j).take (n + 1)) % v).toNat (n + 1))).map (Value.int .u64)).toArray 50 (0, 0)) ∧ w.grownBy w' (some g) := by
  obtain ⟨u, hu⟩ : ∃ u, (s.drop j).take (n + 1) = u := ⟨_, rfl⟩
  rw [hu] at hq ⊢
  have hul : u.length = n + 1 := by rw [← hu]; simp; omega
  have huB : InB B64 u := by rw [← hu]; exact (hs.drop j).take _
  have hud : ∀ i, i < n + 1 → s.getD (j + i) 0 = u.getD i 0 := fun i hi => by
    rw [← hu]; simp [List.getD_eq_getElem?_getD, List.getElem?_drop, hi]
  have hlt := (Array.getElem?_eq_some_iff.1 hU).1
  obtain ⟨hc1, hf1⟩ := row_cell hU (j + n) (by omega)
  obtain ⟨hc2, hf2⟩ := row_cell hU (j + (n - 1)) (by omega)
  obtain ⟨a1, t, rfl, hc3, et, t0, tB⟩ := Rl.get hV (inL v) (n - 1) (by omega)
  have tne : t ≠ 0 := by
    rcases formL v with h | h
    · rw [h] at hn; simp at hn; omega
    · rw [hn, et.out] at h; exact h
  have x0 := huB.getD (by decide) n
  have y0 := huB.getD (by decide) (n - 1)
  rw [hud n (by omega)] at hc1
  rw [hud (n - 1) (by omega)] at hc2
  obtain ⟨x, hx⟩ : ∃ x, u.getD n 0 = x := ⟨_, rfl⟩
  obtain ⟨y, hy⟩ : ∃ y, u.getD (n - 1) 0 = y := ⟨_, rfl⟩
  rw [hx] at hc1 x0
  rw [hy] at hc2 y0
  have b1 : 0 ≤ (n : Int) - 1 := by omega
  have b2 : (n : Int) - 1 < n := by omega
  have b3 : (n : Int) - 1 < n + 1 := by omega
  have HH := Lib.hid (And.intro hu (And.intro hul (And.intro hx (And.intro hy (And.intro hq hn)))))
  have HU := Lib.hid hU
  have HX := Lib.hid (And.intro x0 (And.intro y0 hqB))
  clear hud hu hul hx hy hq hn hU hqB x0 y0
  have b4 : 0 ≤ x := HX.out.1.1
  have HG : Hid (∀ G : Int, (x < t ∧ G = dQ x y t ∨ t ≤ x ∧ G = top64) → q ≤ G ∧ G < B64) := by
    intro G hG
    obtain ⟨hu, hul, hx, hy, hq, hn⟩ := HH.out
    rcases hG with ⟨h1, h2⟩ | ⟨h1, h2⟩
    · subst h2
      obtain ⟨k1, k2, k3⟩ := dQ_dR x y t (by omega)
      have k4 := guess_ge huB (inL v) hul hn hn1 (by rw [hx, hy, et.out]; exact k1) k2 (by rw [et.out]; exact k3) (by rw [valL]; have := val_pos (by decide) (inL v) (formL v) (fun e => by rw [e] at hn; simp at hn; omega); rw [valL] at this; exact this)
      rw [valL, hq] at k4
      exact ⟨k4, (div_range b4 h1 HX.out.2.1 k1 k2 k3).2⟩
    · have := HX.out.2.2
      rw [h2]
      exact ⟨by unfold top64; unfold B64 at this; omega, by decide⟩
  have HD : Hid (∀ W, x < t → _) := fun W hxt => bits_Div64' x y t b4 hxt HX.out.2.1 tB.out W
  go_enter Try.func142, Try.ntmps142
  go_wp2
  go_quiet (fail)
  go_upto_if 20 with (fail)
  go_cut [6] (fun s6 wx => ∃ G : Int, s6 = .int .u64 G ∧ q ≤ G ∧ Hid (G < B64) ∧ ∃ m, wx = w.drewN m)
  case first =>
    by_cases hxt : x < t
    · go_wp2
      go_quiet ((go_at_call 146; exact quiet_of2 (HD.out _ hxt)))
      go_wp2
      go_meet
      obtain ⟨k1, k2⟩ := HG.out _ (.inl ⟨hxt, rfl⟩)
      exact ⟨_, rfl, k1, k2, _, World.drewN_drewN ..⟩
    · go_wp2
      go_meet
      obtain ⟨k1, k2⟩ := HG.out _ (.inr ⟨by omega, rfl⟩)
      exact ⟨_, rfl, k1, k2, _, rfl⟩
  case rest =>
    obtain ⟨G, rfl, hqG, hGB, m, rfl⟩ := hcut
    have HV := Lib.hid (hV.below (pw_below_drewN (Below.refl _ _) m))
    have HU2 : Hid ((w.drewN m).heap[g]? = some (.cells (s.map (Value.int .u64)).toArray 50 (0, 0))) := by
      have := (below_drewN (Below.refl w.heap.size w) m).block g hlt
      exact this.trans HU.out
    have HGr : Hid (w.grownBy (w.drewN m) (some g)) := grown_of_below (pw_below_drewN (Below.refl _ _) m) _
    have hlt2 : Hid (g < (w.drewN m).heap.size) := Nat.lt_of_lt_of_le hlt (below_drewN (Below.refl w.heap.size w) m).size
    clear hV HU hlt hc1 hc2 hc3 hf1 hf2 HG HD
    generalize w.drewN m = w0 at *
    go_wp2_with fail
    go_loopw [6] (fun t wr => ∃ G : Int, t = .int .u64 G ∧ q ≤ G ∧ Hid (G < B64) ∧ Below w0.heap.size w0 wr) (fun t _ => (intOf t).toNat)
    case atStart => exact ⟨G, rfl, hqG, hGB, Below.refl _ _⟩
    case round =>
      clear hqG hGB
      obtain ⟨G, rfl, hqG, hGB, hb⟩ := hrel
      have g0 : 0 ≤ G := by omega
      have HL : Hid (InB B64 [G] ∧ (val B64 [G]).toNat = G.toNat) := ⟨fun z hz => by simp at hz; subst hz; exact ⟨g0, hGB.out⟩, by simp⟩
      have HN : Hid (((Lm v).length + (Lm G.toNat).length ≤ 1099511627776)) := by
        obtain ⟨hu, hul, hx, hy, hq, hn⟩ := HH.out
        have : (Lm G.toNat).length ≤ 1 := lm_len_le two_le_B64 _ _ (by have := hGB.out; unfold B64 at *; omega)
        show _ ≤ _
        omega
      have HN2 : Hid (n = (Lm v).length) := HH.out.2.2.2.2.2.symm
      have HRu : Hid (Rl w0 (some ⟨g, j, none⟩) u) := by
        have := row_reads HU2.out j (n + 1) (by omega) (by omega)
        rw [HH.out.1] at this; exact this
      have HuN : Hid (n + 1 = u.length ∧ u.length ≤ 1099511627776) := by
        obtain ⟨hu, hul, hx, hy, hq, hn⟩ := HH.out
        exact ⟨by omega, by omega⟩
      go_wp2_with (first | ((with_reducible refine gate_dst (N := 41) rfl ?_); refine wp_lit w0.heap.size rfl rfl [G] ?hr hb hb.size (by simp) ?_; (case hr => go_simp); intro v1 w1 hO1 hb1))
      obtain ⟨A1, c1, rfl⟩ := Kd.R_slice hO1
      refine (nat_low' _ _ _ [G] w0.heap.size _ rfl HL.out.1 hO1).mono ?_
      rintro e w' ⟨v2, rfl, hO2, rfl⟩
      rw [HL.out.2] at hO2
      obtain ⟨A2, c2, rfl⟩ := Kd.R_slice hO2
      have hS1 : Hid (w0.heap.size ≤ w1.heap.size) := hb1.size
      go_wp2_with fail
      refine (nat_mul' HN2.out rfl (inL v) (inL G.toNat) HN.out (HV.out.below hb1) (Kd.R_reads' hO2).2.2).mono ?_
      rintro e w2 ⟨v3, rfl, hO3, hb2⟩
      have HP : Hid (lm B64 (val B64 (Lm v) * val B64 (Lm G.toNat)).toNat = Lm (v * G.toNat)) := by
        show _ = _
        rw [valL, valL, ← Int.natCast_mul, Int.toNat_natCast]
      rw [HP.out] at hO3
      have hB2 : Below w0.heap.size w0 w2 := hb1.trans (hb2.mono hb1.size)
      obtain ⟨A3, c3, rfl⟩ := Kd.R_slice hO3
      go_wp2_with fail
      refine (clone_limbs _ _ _ u _ HuN.out.1 HuN.out.2 (HRu.out.below hB2)).mono ?_
      rintro e w3 ⟨v4, rfl, hO4, hb3⟩
      obtain ⟨A4, c4, rfl⟩ := Kd.R_slice hO4
      go_wp2_with fail
      refine (nat_low' _ _ _ u _ _ rfl huB hO4).mono ?_
      rintro e w' ⟨v5, rfl, hO5, rfl⟩
      obtain ⟨A5, c5, rfl⟩ := Kd.R_slice hO5
      go_wp2_with fail
      obtain ⟨K, hK⟩ : ∃ K, cmpI ((v * G.toNat : Nat) : Int) (((val B64 u).toNat : Nat) : Int) = K := ⟨_, rfl⟩
      refine (nat_cmp' rfl rfl (Kd.C_below (Kd.R_reads' hO3).2.2 hb3) (Kd.R_reads' hO5).2.2).mono ?_
      rintro e w4 ⟨rfl, hb4⟩
      rw [hK]
      have hB4 : Below w0.heap.size w0 w4 := (hB2.trans (hb3.mono hB2.size)).trans (hb4.mono (hB2.trans (hb3.mono hB2.size)).size)
      have HC : Hid (K ≤ 0 → G = q ∧ v * G.toNat ≤ (val B64 u).toNat ∧ (val B64 u).toNat - v * G.toNat = (val B64 u % v).toNat) := by
        intro h
        obtain ⟨hu, hul, hx, hy, hq, hn⟩ := HH.out
        have h1 := cmpI_le.1 (hK ▸ h)
        have h2 := val_nonneg (by decide) huB
        have h3 := Int.mul_ediv_add_emod (val B64 u) (v : Int)
        have hv0 : 0 < (v : Int) := by have := val_pos (by decide) (inL v) (formL v) (fun e => by rw [e] at hn; simp at hn; omega); rw [valL] at this; exact this
        have h4 := Int.emod_nonneg (val B64 u) (show (v : Int) ≠ 0 by omega)
        have h5 := Int.emod_lt_of_pos (val B64 u) hv0
        rw [hq] at h3
        have eG : (G.toNat : Int) = G := Int.toNat_of_nonneg g0
        rw [Int.natCast_mul, eG, Int.toNat_of_nonneg h2] at h1
        have hG : G = q := by
          rcases Int.lt_or_le (q : Int) G with h' | h'
          · have := Int.mul_le_mul_of_nonneg_left (show (q : Int) + 1 ≤ G by omega) (show 0 ≤ (v : Int) by omega)
            rw [Int.mul_add, Int.mul_one] at this
            omega
          · omega
        have e2 : ((v * G.toNat : Nat) : Int) = v * q := by rw [Int.natCast_mul, eG, hG]
        exact ⟨hG, by omega, by omega⟩
      have HC2 : Hid (¬ K ≤ 0 → (q : Int) ≤ G - 1) := by
        intro h
        obtain ⟨hu, hul, hx, hy, hq, hn⟩ := HH.out
        have h1 := fun k => h (hK ▸ cmpI_le.2 k)
        have h2 := val_nonneg (by decide) huB
        have eG : (G.toNat : Int) = G := Int.toNat_of_nonneg g0
        have h3 := Int.mul_ediv_add_emod (val B64 u) (v : Int)
        have hv0 : 0 < (v : Int) := by have := val_pos (by decide) (inL v) (formL v) (fun e => by rw [e] at hn; simp at hn; omega); rw [valL] at this; exact this
        have h4 := Int.emod_nonneg (val B64 u) (show (v : Int) ≠ 0 by omega)
        rw [hq] at h3
        rcases Int.lt_or_le (q : Int) G with h' | h'
        · omega
        · have e : (q : Int) = G := by omega
          exact absurd (by rw [Int.natCast_mul, eG, Int.toNat_of_nonneg h2, ← e]; omega) h1
      clear hK
      by_cases hc : K ≤ 0
      · have HE := Lib.hid (HC.out hc)
        go_wp2_with fail
        refine (clone_limbs _ _ _ u _ HuN.out.1 HuN.out.2 (HRu.out.below hB4)).mono ?_
        rintro e w5 ⟨v6, rfl, hO6, hb5⟩
        obtain ⟨A6, c6, rfl⟩ := Kd.R_slice hO6
        go_wp2_with fail
        refine (nat_low' _ _ _ u _ _ rfl huB hO6).mono ?_
        rintro e w' ⟨v7, rfl, hO7, rfl⟩
        obtain ⟨A7, c7, rfl⟩ := Kd.R_slice hO7
        go_wp2_with fail
        refine (nat_sub' rfl rfl (inL _) (inL _) (len_le_of_le HE.out.2.1) (by rw [valL, valL]; exact Int.ofNat_le.2 HE.out.2.1) ?_ (Kd.R_reads' hO7).2.2 (Kd.C_below (Kd.C_below (Kd.C_below (Kd.R_reads' hO3).2.2 hb3) hb4) hb5)).mono ?_
        · exact Nat.le_trans (len_of_val huB) HuN.out.2
        rintro e w6 ⟨v8, rfl, hO8, hb6⟩
        have HP2 : Hid (lm B64 (val B64 (Lm (val B64 u).toNat) - val B64 (Lm (v * G.toNat))).toNat = Lm (val B64 u % v).toNat) := by
          have := HE.out.2.2
          have := HE.out.2.1
          show _ = _
          rw [valL, valL]; congr 1; omega
        rw [HP2.out] at hO8
        obtain ⟨A8, c8, rfl⟩ := Kd.R_slice hO8
        have HRl : Hid ((Lm (val B64 u % v).toNat).length ≤ n + 1) := by
          obtain ⟨hu, hul, hx, hy, hq, hn⟩ := HH.out
          have hv0 : 0 < (v : Int) := by have := val_pos (by decide) (inL v) (formL v) (fun e => by rw [e] at hn; simp at hn; omega); rw [valL] at this; exact this
          have h5 := Int.emod_lt_of_pos (val B64 u) hv0
          have := len_le_of_le (a := v) (b := (val B64 u % v).toNat) (by omega)
          show _ ≤ _
          omega
        have hB5 : Below w0.heap.size w0 w5 := hB4.trans (hb5.mono hB4.size)
        have hB6 : Below w0.heap.size w0 w6 := hB5.trans (hb6.mono hB5.size)
        obtain ⟨w8, w9, hcl, hcp, hU9, hG9⟩ := clear_copy (w7 := w6) (g := g) (j := j) (m := n + 1) (C := C) (s := s) (A := A8) (c := c8) (r := (val B64 u % v).toNat) ((hB6.block g hlt2.out).trans HU2.out) (by omega) (by omega) HRl.out (Kd.R_reads' hO8).2.2 (fun ad e => by have := Ol.base (e ▸ hO8); have := hB5.size; have := hlt2.out; omega)
        have HU9 := Lib.hid hU9
        have HGf : Hid (w.grownBy w9 (some g)) := (HGr.out.trans (grown_of_below hB6 _)).trans hG9
        clear hU9 hG9
        go_wp2_with fail
        go_ret
        exact ⟨ret_int HE.out.1, HU9.out, HGf.out⟩
      · have HE := Lib.hid (HC2.out hc)
        have g1 : 1 ≤ G := by have := HE.out; omega
        have hw : IntKind.u64.wrap (G - 1) = G - 1 := u64_wrap (by omega) (by have := hGB.out; unfold B64 at this; omega)
        go_wp2_with fail
        exact ⟨⟨G - 1, rfl, by have := HE.out; omega, Int.lt_of_le_of_lt (by omega) hGB.out, hB4⟩, by simp [intOf]; omega⟩
end Go.Proofs.Ytajahomfmcbmlaa.T
