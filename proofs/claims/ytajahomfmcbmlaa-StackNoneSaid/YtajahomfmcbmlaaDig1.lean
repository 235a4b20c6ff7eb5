/-
The references' digits: lists to the base 2^32.
-/
import Derived.Test.YtajahomfmcbmlaaNat6
namespace Go.Proofs.Ytajahomfmcbmlaa.T
open Go.RowKit Go.Proofs.YtajahomfmcbmlaaW.PrintWords Go.Proofs.YtajahomfmcbmlaaW.PrintLast Go.Proofs.YtajahomfmcbmlaaW.PrintMore
set_option linter.unusedVariables false

/-- The digits of n. -/
abbrev Dm (n : Nat) : List Int := lm B32 n
theorem inD (n : Nat) : InB B32 (Dm n) := inB_lm two_le_B32 n
theorem formD (n : Nat) : FormL (Dm n) := formL_lm two_le_B32 n
theorem valD (n : Nat) : val B32 (Dm n) = n := val_lm two_le_B32 n

set_option maxHeartbeats 400000 in
theorem ref_Low (A : Option Addr) (c : Nat) (l : List Int) (base : Nat) (w : World) (hb : InB B32 l) (hr : Ol w base (.slice A l.length c) l) :
    Calls Try.prog 111 #[.slice A l.length c] w fun e w' => ∃ v, e = .returned v ∧ Ol w base v (lm B32 (val B32 l).toNat) ∧ w = w' := by
  have hlen := Ol.len hr
  obtain ⟨_, hlc0, _⟩ := Kd.R_reads' hr
  have hv : val B32 (l.take l.length) = val B32 l := by rw [List.take_length]
  go_enter Try.func111, Try.ntmps111
  go_wp2
  go_loop [3] (fun t => ∃ m : Nat, m ≤ l.length ∧ Hid (val B32 (l.take m) = val B32 l) ∧ t = .int .i64 m) (fun t => (intOf t).toNat)
  case atStart => exact ⟨_, Nat.le_refl _, hv, rfl⟩
  case round =>
    obtain ⟨m, hm, hvm, rfl⟩ := hrel
    clear hv
    by_cases h0 : m = 0
    · subst h0
      go_wp2
      go_ret
      have h := hvm.out
      simp only [List.take_zero, val_nil] at h
      exact ⟨_, rfl, by rw [← h]; simp only [Int.toNat_zero, lm_zero]; exact Kd.R_take hr (Nat.zero_le _), rfl⟩
    · have hm1 : 0 < m := by omega
      obtain ⟨_, hlc, hC⟩ := Kd.R_reads' hr
      obtain ⟨ad, rfl, hc⟩ := Rl.at hC (m - 1) (by omega)
      have hmc : (m : Int) - 1 ≤ (c : Int) := by omega
      have hmc' : 1 ≤ (m : Int) := by omega
      have HS : Hid (val B32 (l.take (m - 1 + 1)) = val B32 (l.take (m - 1)) + B32 ^ (m - 1) * l.getD (m - 1) 0) := val_take_succ _ l (m - 1) (by omega)
      go_wp2
      · have hz : (l[m - 1]?.getD 0 == 0) = true := by assumption
        refine ⟨⟨m - 1, by omega, ?_, by go_num⟩, by simp [intOf]; omega⟩
        have h2 := HS.out
        rw [show m - 1 + 1 = m from by omega, hvm.out, List.getD_eq_getElem?_getD, beq_iff_eq.1 hz] at h2
        exact Lib.hid (by omega)
      · have hz : (l[m - 1]?.getD 0 == 0) = false := by assumption
        go_ret
        refine ⟨_, rfl, ?_, rfl⟩
        rw [← lm_of_take two_le_B32 hb m hm hvm.out (.inr (by rw [List.getD_eq_getElem?_getD]; exact beq_eq_false_iff_ne.1 hz))]
        exact Kd.R_take hr hm


theorem ref_Low' (A : Option Addr) (n c : Nat) (l : List Int) (base : Nat) (w : World) (hn : n = l.length) (hb : InB B32 l) (hr : Ol w base (.slice A n c) l) :
    Calls Try.prog 111 #[.slice A n c] w fun e w' => ∃ v, e = .returned v ∧ Ol w base v (lm B32 (val B32 l).toNat) ∧ w = w' := by
  subst hn; exact ref_Low A c l base w hb hr

set_option maxHeartbeats 400000 in
theorem ref_Form (A : Option Addr) (c : Nat) (l : List Int) (w : World) (hr : Rl w A l) :
    Calls Try.prog 76 #[.slice A l.length c] w fun e w' => e = .returned (.bool (formB l)) ∧ w = w' := by
  have hlen := hr.len
  by_cases h : l.length = 0
  · have h2 : formB l = true := by simp [formB, h]
    have h1 : ((l.length : Int) == 0) = true := by simp [h]
    clear h
    rw [h2]; clear h2
    go_enter Try.func76, Try.ntmps76
    go_wp2
    go_ret
    exact ⟨rfl, rfl⟩
  · have h2 : formB l = (l.getD (l.length - 1) 0 != 0) := by simp [formB, h]
    obtain ⟨ad, rfl, hc⟩ := Rl.at hr (l.length - 1) (by omega)
    have h1 : ((l.length : Int) == 0) = false := by simp; simpa using h
    have h3 : 0 < l.length := by omega
    clear h
    rw [h2]; clear h2
    go_enter Try.func76, Try.ntmps76
    go_wp2
    go_ret
    exact ⟨by simp, rfl⟩


/-- 'make([]uint64, 0, n)'. -/
theorem wp_make_cap {ops : Array Oper} {Q : Exit → Act → World → Prop} {rest : List Oper} {o : Oper} {a : Act} {w0 W : World} (base : Nat) {N : Tmp} (hgd : o.guard = none) (hd : o.dst = some N) (x y : Operand) (ho : o.op = .makeSlice 51 x y) (n : Nat) (hx : a.eval x = .int .i64 0) (hy : a.eval y = .int .i64 n)
    (hl : n ≤ 35184372088832) (HB : Below base w0 W) (hbase : base ≤ W.heap.size)
    (h : ∀ v1 w1, Ol w1 base v1 [] → Below base w0 w1 → wpList Try.prog ops Q rest (a.put o.dst v1) w1) : wpList Try.prog ops Q (o :: rest) a W := by
  obtain ⟨i0, hi, hzz⟩ := Option.map_eq_some_iff.1 info_u64
  simp only [Prod.mk.injEq] at hzz
  obtain ⟨hz0, hz1, hz2⟩ := hzz
  have hr := run_make (P := Try.prog) W 51 50 i0 (.int .u64 0) Try.underlying51 hi hz0 .i64 .i64 0 (n : Int) (by omega) (by omega)
    (by
      have h3 : ((i0.bytes * n : Nat) : Int) ≤ 281474976710656 := by rw [hz2]; omega
      rwa [Int.natCast_mul] at h3) (by omega)
  simp only [Int.toNat_natCast, Int.toNat_zero] at hr
  rw [hz1, Nat.mul_one] at hr
  refine Kd.event_run hgd (v := .slice (some ⟨W.heap.size, 0, none⟩) 0 n) (w1 := W.alloc (.cells (madeCells (Value.int .u64 0).cells n) 50)) ?_ (h _ _ ?_ (Below.alloc HB hbase _))
  · simp [execOp, ho, hx, hy, hr]
  · refine Kd.R_of_own (enc := Value.int .u64) (h1 := fun _ => rfl) ⟨by simp [encs], .inr ⟨W.heap.size, n, madeCells (Value.int .u64 0).cells n, rfl, hbase, ?_, Nat.zero_le _, by unfold maxLen; omega, by simp [size_madeCells], by simp [encs]⟩⟩ (fun _ _ => trivial)
    show (W.heap.push _)[W.heap.size]? = _
    simp

theorem digs_step {l s : List Int} {k : Nat} {x lo hi : Int} (hk : k < l.length) (hs : s.length = 2 * k) (hv : val B32 s = val B64 (l.take k)) (hx : l.getD k 0 = x) (hlo : x % 4294967296 = lo) (hhi : x / 4294967296 = hi) : val B32 (s ++ [lo, hi]) = val B64 (l.take (k + 1)) := by
  have e : ((B32 : Nat) : Int) ^ s.length = ((B64 : Nat) : Int) ^ k := by
    rw [hs, Int.pow_mul]; rfl
  rw [val_append, val_take_succ _ _ _ hk, hv, hx, e]
  congr 2
  simp only [val_cons, val_nil]
  show lo + 4294967296 * (hi + 4294967296 * 0) = x
  omega

theorem digs_in {s : List Int} {x lo hi : Int} (hs : InB B32 s) (hx : 0 ≤ x ∧ x < B64) (hlo : x % 4294967296 = lo) (hhi : x / 4294967296 = hi) : InB B32 (s ++ [lo, hi]) := by
  refine hs.append fun y hy => ?_
  have h2 : x < 18446744073709551616 := hx.2
  have : y = lo ∨ y = hi := by simpa using hy
  show 0 ≤ y ∧ y < 4294967296
  rcases this with rfl | rfl <;> omega

set_option maxRecDepth 10000 in
set_option maxHeartbeats 1000000 in
theorem ref_From (A : Option Addr) (n c : Nat) (l : List Int) (w : World) (hn : n = l.length) (hl : InB B64 l) (hN : n ≤ 274877906944) (hA : Rl w A l) :
    Calls Try.prog 78 #[.slice A n c] w fun e w' => ∃ v, e = .returned v ∧ Ol w' w.heap.size v (Dm (val B64 l).toNat) ∧ Below w.heap.size w w' := by
  have HN := Lib.hid hn
  clear hn
  go_enter Try.func78, Try.ntmps78
  go_wp2_with ((with_reducible refine gate_dst (N := 9) rfl ?_); refine wp_make_cap w.heap.size rfl rfl _ _ rfl (2 * n) rfl (congrArg (Value.int .i64) (by omega : (2 * (n : Int)) = ((2 * n : Nat) : Int))) (by omega) (Below.refl _ _) (Nat.le_refl _) ?_; intro v1 w1 hO1 hb1)
  go_loopw [3, 12] (fun t i wr => ∃ (k : Nat) (s : List Int) (v : Value), k ≤ n ∧ i = .int .i64 k ∧ v = t ∧ Ol wr w.heap.size v s ∧ Hid (s.length = 2 * k ∧ InB B32 s ∧ val B32 s = val B64 (l.take k)) ∧ Below w.heap.size w wr) (fun _ i _ => n - (intOf i).toNat)
  case atStart => exact ⟨0, [], _, Nat.zero_le _, rfl, rfl, hO1, ⟨rfl, InB.nil _, rfl⟩, hb1⟩
  case round =>
    clear hO1 hb1
    obtain ⟨k, s, v, hk, rfl, rfl, hO, hs, hb⟩ := hrel
    by_cases hlt : k < n
    · obtain ⟨ad, x, rfl, hc, hx, x0, x1⟩ := Rl.get (hA.below hb) hl k (by have := HN.out; omega)
      obtain ⟨lo, hlo⟩ : ∃ z, x % 4294967296 = z := ⟨_, rfl⟩
      obtain ⟨hi, hhi⟩ : ∃ z, x / 4294967296 = z := ⟨_, rfl⟩
      go_wp2_with (first
        | ((with_reducible refine gate_dst (N := 21) rfl ?_); refine wp_lit (w0 := wr) wr.heap.size rfl rfl [lo, hi] ?hr (Below.refl _ _) (Nat.le_refl _) (by simp) ?_; (case hr => go_simp); intro v1 w3 hO1 hb3; obtain ⟨A1, c1, rfl⟩ := Kd.R_slice hO1)
        | ((with_reducible refine gate_dst (N := 22) rfl ?_); refine wp_append (w0 := w) w.heap.size rfl _ _ rfl v s [lo, hi] A1 2 c1 rfl rfl (Kd.R_below hO hb3) (Kd.R_reads' hO1).2.2 (hb.trans (hb3.mono hb.size)) (hb.trans (hb3.mono hb.size)).size (by have := hs.out.1; omega) ?_; intro v2 w4 hO2 hb4))
      refine ⟨⟨k + 1, _, _, by omega, by go_num, rfl, hO2, ⟨?_, digs_in hs.out.2.1 ⟨x0, x1.out⟩ hlo hhi, digs_step (by have := HN.out; omega) hs.out.1 hs.out.2.2 hx.out hlo hhi⟩, hb4⟩, by simp [intOf]; omega⟩
      rw [List.length_append, hs.out.1]; simp; omega
    · obtain rfl : k = n := by omega
      obtain ⟨A2, c2, rfl⟩ := Kd.R_slice hO
      go_wp2_with fail
      refine (ref_Low' _ _ _ s w.heap.size _ rfl hs.out.2.1 hO).mono ?_
      rintro e w' ⟨v, rfl, hv, rfl⟩
      go_wp2_with fail
      go_ret
      exact ⟨_, rfl, by have := hs.out.2.2; rw [HN.out, List.take_length] at this; rw [← this]; exact hv, hb⟩

theorem val_ge {B : Int} (hB : 1 ≤ B) {l : List Int} (h : InB B l) (hf : FormL l) (hl : 0 < l.length) : B ^ (l.length - 1) ≤ val B l := by
  have h1 := val_take_succ B l (l.length - 1) (by omega)
  rw [show l.length - 1 + 1 = l.length from by omega, List.take_length] at h1
  have h2 := val_nonneg (by omega) (h.take (l.length - 1))
  rcases hf with rfl | hf
  · simp at hl
  · have h3 := h.getD (by omega) (l.length - 1)
    have h4 : (0 : Int) < B ^ (l.length - 1) := Int.pow_pos (by omega)
    have h5 : B ^ (l.length - 1) * 1 ≤ B ^ (l.length - 1) * l.getD (l.length - 1) 0 := Int.mul_le_mul_of_nonneg_left (by omega) (by omega)
    omega

theorem form_of_ge {B : Int} (hB : 1 ≤ B) {l : List Int} (h : InB B l) (hv : 0 < l.length → B ^ (l.length - 1) ≤ val B l) : FormL l := by
  rcases Nat.eq_zero_or_pos l.length with h0 | h0
  · exact .inl (List.length_eq_zero_iff.1 h0)
  · refine .inr fun e => ?_
    have h1 := val_take_succ B l (l.length - 1) (by omega)
    rw [show l.length - 1 + 1 = l.length from by omega, List.take_length, e] at h1
    have h2 := val_lt hB (h.take (l.length - 1))
    rw [List.length_take, Nat.min_eq_left (by omega)] at h2
    have := hv h0
    omega

theorem to_fin {l s : List Int} (hl : InB B32 l) (fl : FormL l) (hs : InB B64 s) (h1 : l.length ≤ 2 * s.length) (h2 : 2 * s.length ≤ l.length + 1) (hv : val B64 s = val B32 l) : s = Lm (val B32 l).toNat := by
  rw [← hv]
  refine (lm_val two_le_B64 hs (form_of_ge (by decide) hs fun h0 => ?_)).symm
  rw [hv]
  refine Int.le_trans ?_ (val_ge (by decide) hl fl (by omega))
  have : ((B64 : Nat) : Int) ^ (s.length - 1) = ((B32 : Nat) : Int) ^ (2 * (s.length - 1)) := by rw [Int.pow_mul]; rfl
  rw [this]
  exact pow_mono (by decide) (by omega)

theorem to_step {l s : List Int} {k : Nat} {z : Int} (hs : s.length = k) (hB : InB B64 s) (hv : val B64 s = val B32 (l.take (2 * k))) (hz : 0 ≤ z ∧ z < B64) (h2 : val B32 (l.take (2 * (k + 1))) = val B32 (l.take (2 * k)) + B32 ^ (2 * k) * z) : (s ++ [z]).length = k + 1 ∧ InB B64 (s ++ [z]) ∧ val B64 (s ++ [z]) = val B32 (l.take (2 * (k + 1))) := by
  refine ⟨by simp [hs], hB.append fun y hy => ?_, ?_⟩
  · have : y = z := by simpa using hy
    subst this; exact hz
  · rw [val_append, h2, hv, hs]
    have : ((B64 : Nat) : Int) ^ k = ((B32 : Nat) : Int) ^ (2 * k) := by rw [Int.pow_mul]; rfl
    rw [this]; simp

theorem two_digs {l : List Int} {k : Nat} {x y yb z : Int} (h : k + 1 < l.length) (hl : InB B32 l) (hx : l.getD k 0 = x) (hy : l.getD (k + 1) 0 = y) (hyb : IntKind.u64.wrap (y * 4294967296) = yb) (hz : IntKind.u64.wrap (x + yb) = z) : (0 ≤ z ∧ z < B64) ∧ val B32 (l.take (k + 2)) = val B32 (l.take k) + B32 ^ k * z := by
  have h1 := hl.getD (by decide) k
  have h2 := hl.getD (by decide) (k + 1)
  rw [hx] at h1
  rw [hy] at h2
  have e : ((B32 : Nat) : Int) = 4294967296 := rfl
  rw [e] at h1 h2
  rw [u64_wrap (by omega) (by omega)] at hyb
  rw [u64_wrap (by omega) (by omega)] at hz
  refine ⟨⟨by omega, by show z < 18446744073709551616; omega⟩, ?_⟩
  rw [val_take_succ _ _ (k + 1) h, val_take_succ _ _ k (by omega), hx, hy, ← hz, ← hyb, e, Int.pow_succ]
  grind

theorem one_dig {l : List Int} {k : Nat} {x : Int} (h : k + 1 = l.length) (hl : InB B32 l) (hx : l.getD k 0 = x) : (0 ≤ x ∧ x < B64) ∧ val B32 (l.take (k + 2)) = val B32 (l.take k) + B32 ^ k * x := by
  have h1 := hl.getD (by decide) k
  rw [hx] at h1
  have e : ((B32 : Nat) : Int) = 4294967296 := rfl
  rw [e] at h1
  refine ⟨⟨by omega, by show x < 18446744073709551616; omega⟩, ?_⟩
  rw [List.take_of_length_le (show l.length ≤ k + 2 by omega), ← hx, ← val_take_succ _ _ k (by omega), h, List.take_length]

set_option maxRecDepth 10000 in
set_option maxHeartbeats 1000000 in
theorem ref_To (A : Option Addr) (n c : Nat) (l : List Int) (w : World) (hn : n = l.length) (hl : InB B32 l) (fl : FormL l) (hN : n ≤ 549755813888) (hA : Rl w A l) :
    Calls Try.prog 90 #[.slice A n c] w fun e w' => ∃ v, e = .returned v ∧ Ol w' w.heap.size v (Lm (val B32 l).toNat) ∧ Below w.heap.size w w' := by
  have HN := Lib.hid hn
  clear hn
  go_enter Try.func90, Try.ntmps90
  go_wp2_with fail
  go_loopw [3, 4] (fun t i wr => ∃ (k : Nat) (s : List Int) (v : Value), 2 * k ≤ n + 1 ∧ i = .int .i64 (2 * k : Nat) ∧ v = t ∧ Ol wr w.heap.size v s ∧ Hid (s.length = k ∧ InB B64 s ∧ val B64 s = val B32 (l.take (2 * k))) ∧ Below w.heap.size w wr) (fun _ i _ => n + 2 - (intOf i).toNat)
  case atStart => exact ⟨0, [], _, Nat.zero_le _, rfl, rfl, Kd.R_nil _ _ _ _ _, ⟨rfl, InB.nil _, rfl⟩, Below.refl _ _⟩
  case round =>
    obtain ⟨k, s, v, hk, rfl, rfl, hO, hs, hb⟩ := hrel
    by_cases hlt : 2 * k < n
    · obtain ⟨ad, x, rfl, hc, hx, x0, x1⟩ := Rl.get (l := l) (hA.below hb) (fun y hy => ⟨(hl y hy).1, Int.lt_of_lt_of_le (hl y hy).2 (by decide)⟩) (2 * k) (by have := HN.out; omega)
      by_cases hlt2 : 2 * k + 1 < n
      · obtain ⟨ad', y, hy', hc2, hy, y0, y1⟩ := Rl.get (l := l) (hA.below hb) (fun y hy => ⟨(hl y hy).1, Int.lt_of_lt_of_le (hl y hy).2 (by decide)⟩) (2 * k + 1) (by have := HN.out; omega)
        obtain rfl : ad = ad' := by simpa using hy'
        have hc3 : wr.cell? ⟨ad.block, ad.off + (2 * k + 1), none⟩ = some (.int .u64 y) := by simpa [Addr.add] using hc2
        obtain ⟨yb, hyb⟩ : ∃ z, IntKind.u64.wrap (y * 4294967296) = z := ⟨_, rfl⟩
        obtain ⟨z, hz⟩ : ∃ q, IntKind.u64.wrap (x + yb) = q := ⟨_, rfl⟩
        have HZ := Lib.hid (two_digs (by have := HN.out; omega) hl hx.out hy.out hyb hz)
        go_wp2_with (first
          | ((with_reducible refine gate_dst (N := 31) rfl ?_); refine wp_lit (w0 := wr) wr.heap.size rfl rfl [z] ?hr (Below.refl _ _) (Nat.le_refl _) (by simp) ?_; (case hr => go_simp); intro v1 w3 hO1 hb3; obtain ⟨A1, c1, rfl⟩ := Kd.R_slice hO1)
          | ((with_reducible refine gate_dst (N := 32) rfl ?_); refine wp_append (w0 := w) w.heap.size rfl _ _ rfl v s [z] A1 1 c1 rfl rfl (Kd.R_below hO hb3) (Kd.R_reads' hO1).2.2 (hb.trans (hb3.mono hb.size)) (hb.trans (hb3.mono hb.size)).size (by have := hs.out.1; omega) ?_; intro v2 w4 hO2 hb4))
        exact ⟨⟨k + 1, _, _, by omega, by go_num, rfl, hO2, to_step hs.out.1 hs.out.2.1 hs.out.2.2 HZ.out.1 HZ.out.2, hb4⟩, by simp [intOf]; omega⟩
      · have HZ := Lib.hid (one_dig (by have := HN.out; omega) hl hx.out)
        go_wp2_with (first
          | ((with_reducible refine gate_dst (N := 31) rfl ?_); refine wp_lit (w0 := wr) wr.heap.size rfl rfl [x] ?hr (Below.refl _ _) (Nat.le_refl _) (by simp) ?_; (case hr => go_simp); intro v1 w3 hO1 hb3; obtain ⟨A1, c1, rfl⟩ := Kd.R_slice hO1)
          | ((with_reducible refine gate_dst (N := 32) rfl ?_); refine wp_append (w0 := w) w.heap.size rfl _ _ rfl v s [x] A1 1 c1 rfl rfl (Kd.R_below hO hb3) (Kd.R_reads' hO1).2.2 (hb.trans (hb3.mono hb.size)) (hb.trans (hb3.mono hb.size)).size (by have := hs.out.1; omega) ?_; intro v2 w4 hO2 hb4))
        exact ⟨⟨k + 1, _, _, by omega, by go_num, rfl, hO2, to_step hs.out.1 hs.out.2.1 hs.out.2.2 HZ.out.1 HZ.out.2, hb4⟩, by simp [intOf]; omega⟩
    · go_wp2_with fail
      go_ret
      have h2 := hs.out.2.2
      rw [List.take_of_length_le (by have := HN.out; omega)] at h2
      exact ⟨_, rfl, by rw [← to_fin hl fl hs.out.2.1 (by have := HN.out; have := hs.out.1; omega) (by have := HN.out; have := hs.out.1; omega) h2]; exact hO, hb⟩

set_option maxRecDepth 10000 in
set_option maxHeartbeats 1000000 in
theorem ref_Same (A B : Option Addr) (n m c d : Nat) (l k : List Int) (w : World) (hn : n = l.length) (hm : m = k.length) (hA : Rl w A l) (hB : Rl w B k) :
    Calls Try.prog 89 #[.slice A n c, .slice B m d] w fun e w' => e = .returned (.bool (decide (l = k))) ∧ ∃ j, w' = w.drewN j := by
  have n1 := hA.len
  have n2 := hB.len
  subst hn hm
  by_cases h : l.length = k.length
  · have HE := Lib.hid h
    have h1 : ((l.length : Int) != k.length) = false := by simp [h]
    have h2 : k.length ≤ l.length := by omega
    clear h
    go_enter Try.func89, Try.ntmps89
    go_wp2
    go_loopw [13] (fun t wr => ∃ i j : Nat, i ≤ l.length ∧ Hid (l.take i = k.take i) ∧ t = .int .i64 i ∧ wr = w.drewN j) (fun t _ => l.length - (intOf t).toNat)
    case atStart => exact ⟨0, 0, Nat.zero_le _, rfl, rfl, rfl⟩
    case round =>
      obtain ⟨i, j, hi, he, rfl, rfl⟩ := hrel
      by_cases hlt : i < l.length
      · obtain ⟨a1, rfl, hc1⟩ := Rl.at hA i hlt
        obtain ⟨a2, rfl, hc2⟩ := Rl.at hB i (by have := HE.out; omega)
        obtain ⟨x, hx⟩ : ∃ x, l.getD i 0 = x := ⟨_, rfl⟩
        obtain ⟨y, hy⟩ : ∃ x, k.getD i 0 = x := ⟨_, rfl⟩
        rw [hx] at hc1
        rw [hy] at hc2
        have HX := Lib.hid (And.intro hx hy)
        clear hx hy
        have g1 : i < k.length := by have := HE.out; omega
        go_wp2
        go_quiet (fail)
        go_wp2
        · have hne : (x != y) = true := by assumption
          go_ret
          refine ⟨ret_bool (decide_eq_false fun e => ?_).symm, _, World.drewN_drewN _ _ _⟩
          subst e
          rw [HX.out.1] at HX
          have := HX.out.2
          simp [this] at hne
        · have hne : (x != y) = false := by assumption
          refine ⟨⟨i + 1, _, by omega, ?_, by go_num, rfl⟩, by simp [intOf]; omega⟩
          have e : x = y := by simpa using hne
          show _ = _
          rw [take_succ_getD _ _ hlt, take_succ_getD _ _ g1, he.out, HX.out.1, HX.out.2, e]
      · obtain rfl : i = l.length := by omega
        have hlk : l = k := by
          have := he.out
          rw [List.take_length, HE.out, List.take_length] at this; exact this
        go_wp2
        go_ret
        exact ⟨ret_bool (by simp [hlk]), j, rfl⟩
  · have h3 : decide (l = k) = false := by simp; intro e; exact h (by rw [e])
    rw [h3]
    have h1 : ((l.length : Int) != k.length) = true := by simp; omega
    clear h h3
    go_enter Try.func89, Try.ntmps89
    go_wp2
    go_ret
    exact ⟨rfl, 0, rfl⟩

set_option maxRecDepth 10000 in
set_option maxHeartbeats 1000000 in
theorem ref_Twin (A : Option Addr) (n c : Nat) (l : List Int) (w : World) (hn : n = l.length) (hN : n ≤ 549755813888) (hA : Rl w A l) :
    Calls Try.prog 91 #[.slice A n c] w fun e w' => ∃ v, e = .returned v ∧ Ol w' w.heap.size v l ∧ Below w.heap.size w w' := by
  subst hn
  go_enter Try.func91, Try.ntmps91
  go_wp2_with ((with_reducible refine gate_dst (N := 6) rfl ?_); refine wp_append (w0 := w) w.heap.size rfl _ _ rfl _ [] l A l.length c rfl rfl (Kd.R_nil _ _ _ _ _) hA (Below.refl _ _) (Nat.le_refl _) (by simp; omega) ?_; intro v2 w4 hO2 hb4)
  go_ret
  exact ⟨_, rfl, hO2, hb4⟩
end Go.Proofs.Ytajahomfmcbmlaa.T
