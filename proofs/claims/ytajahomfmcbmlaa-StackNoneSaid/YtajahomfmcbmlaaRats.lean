/-
Lists of rational numbers: as they are read, as one's own.
-/
import Derived.Test.YtajahomfmcbmlaaCalc1
namespace Go.Proofs.Ytajahomfmcbmlaa.T
open Go.RowKit Go.Proofs.YtajahomfmcbmlaaW.PrintWords Go.Proofs.YtajahomfmcbmlaaW.PrintLast Go.Proofs.YtajahomfmcbmlaaW.PrintMore
set_option linter.unusedVariables false

/-- A rational number as it lies: sign, numerator's limbs, denominator's. -/
abbrev Rw := Bool × List Int × List Int
def kQ : Kd Rw := Kd.pair Kd.bool (Kd.pair (Kd.slice 50 (Kd.int .u64)) (Kd.slice 50 (Kd.int .u64)))
def zQ : Rw := (false, [], [])
theorem kQ_open {w : World} {x : Rw} {cs : List Value} (h : kQ.K w x cs) : ∃ A a B b, cs = [.bool x.1, .slice A x.2.1.length a, .slice B x.2.2.length b] ∧ x.2.1.length ≤ a ∧ Rl w A x.2.1 ∧ x.2.2.length ≤ b ∧ Rl w B x.2.2 := by
  obtain ⟨_, _, rfl, rfl, ⟨_, _, rfl, ⟨A1, c1, rfl, l1, g1⟩, ⟨A2, c2, rfl, l2, g2⟩⟩⟩ := h
  exact ⟨A1, c1, A2, c2, rfl, l1, g1, l2, g2⟩
theorem kQ_mkM {w : World} {base : Nat} {ok : Nat → Prop} {x : Rw} {v1 v2 : Value} (g1 : Kd.R (Kd.int .u64) 50 w base ok v1 x.2.1) (g2 : Kd.R (Kd.int .u64) 50 w base ok v2 x.2.2) : kQ.M w base ok x [.bool x.1, v1, v2] := ⟨[.bool x.1], [v1, v2], rfl, rfl, ⟨[v1], [v2], rfl, ⟨v1, rfl, g1⟩, ⟨v2, rfl, g2⟩⟩⟩
theorem kQ_openM {w : World} {base : Nat} {ok : Nat → Prop} {x : Rw} {cs : List Value} (h : kQ.M w base ok x cs) : ∃ v1 v2, cs = [.bool x.1, v1, v2] ∧ Kd.R (Kd.int .u64) 50 w base ok v1 x.2.1 ∧ Kd.R (Kd.int .u64) 50 w base ok v2 x.2.2 := by
  obtain ⟨_, _, rfl, rfl, ⟨_, _, rfl, ⟨v1, rfl, g1⟩, ⟨v2, rfl, g2⟩⟩⟩ := h
  exact ⟨v1, v2, rfl, g1, g2⟩
theorem Qo.M {w : World} {base : Nat} {v : Value} {s : Bool} {l m : List Int} (h : Qo w base v s l m) : ∃ v1 v2, v = .agg #[.bool s, v1, v2] ∧ kQ.M w base (fun k => base ≤ k ∧ k < w.heap.size) (s, l, m) [.bool s, v1, v2] := by
  obtain ⟨v1, v2, rfl, h1, h2⟩ := h
  exact ⟨v1, v2, rfl, kQ_mkM (x := (s, l, m)) (Kd.R_mono (Kd.R_bound h1) fun k hk => ⟨hk.2.1, hk.2.2.1⟩) (Kd.R_mono (Kd.R_bound h2) fun k hk => ⟨hk.2.1, hk.2.2.1⟩)⟩

/-- A list of numbers that is read; one of one's own. -/
abbrev Rq (w : World) (A : Option Addr) (xs : List Rw) : Prop := Kd.C kQ w A xs.length xs
abbrev Oq (w : World) (base : Nat) (v : Value) (xs : List Rw) : Prop := Kd.R kQ 53 w base (fun _ => True) v xs
theorem Rq.below {w w1 : World} {A : Option Addr} {l : List Rw} (h : Rq w A l) (hb : Below w.heap.size w w1) : Rq w1 A l := Kd.C_below h hb

theorem Rq.at {w : World} {A : Option Addr} {xs : List Rw} (h : Rq w A xs) (i : Nat) (hi : i < xs.length) : ∃ ad A1 c1 A2 c2, A = some ad ∧ w.cell? (ad.add (i * 3)) = some (.bool (xs.getD i zQ).1) ∧ w.cell? ⟨(ad.add (i * 3)).block, (ad.add (i * 3)).off + 1, none⟩ = some (.slice A1 (xs.getD i zQ).2.1.length c1) ∧ w.cell? ⟨(ad.add (i * 3)).block, (ad.add (i * 3)).off + 2, none⟩ = some (.slice A2 (xs.getD i zQ).2.2.length c2) ∧ Rl w A1 (xs.getD i zQ).2.1 ∧ Rl w A2 (xs.getD i zQ).2.2 := by
  obtain ⟨ad, c, e, _, hK, hc0⟩ := Kd.C_get h zQ (i : Int) (by omega) (by omega)
  have hc : ∀ j u, c[j]? = some u → w.cell? (ad.add (i * 3 + j)) = some u := by simpa [kQ, Kd.pair, Kd.bool, Kd.scalar, Kd.slice] using hc0
  rw [Int.toNat_natCast] at hK
  obtain ⟨A1, c1, A2, c2, rfl, l1, g1, l2, g2⟩ := kQ_open hK
  exact ⟨ad, A1, c1, A2, c2, e, hc 0 _ rfl, by rw [← add_field _ _ 1 (by omega)]; exact hc 1 _ rfl, by rw [← add_field _ _ 2 (by omega)]; exact hc 2 _ rfl, g1, g2⟩

theorem info_Q : (Try.prog.info? 53).map (fun i => (i.zero, i.size, i.bytes)) = some (some (.agg #[.bool false, .slice none 0 0, .slice none 0 0]), 3, 56) := by kernel_rfl

/-- 'append(v, p)' of a number. -/
theorem wp_appQ {ops : Array Oper} {Q : Exit → Act → World → Prop} {rest : List Oper} {o : Oper} {a : Act} {w0 W : World} (base : Nat) (hgd : o.guard = none) (s x : Operand)
    (ho : o.op = .call { callee := .builtin .append, args := #[s, x], argTypes := #[30, 30] }) (v : Value) (xs : List Rw) (p : Rw) (cs : List Value) (okp : Nat → Prop) (hs : a.eval s = v) (hx : a.eval x = .slice (some ⟨W.heap.size, 0, none⟩) 1 1)
    (hp : kQ.M W base okp p cs) (hokp : ∀ k, okp k → some k ≠ v.ownBlock) (HO : Oq W base v xs) (HB : Below base w0 W) (hbase : base ≤ W.heap.size) (hl : xs.length ≤ 1099511627776)
    (h : ∀ v1 w1, Oq w1 base v1 (xs ++ [p]) → Below base w0 w1 → wpList Try.prog ops Q rest (a.put o.dst v1) w1) : wpList Try.prog ops Q (o :: rest) a (W.alloc (.cells cs.toArray 53)) := by
  refine Kd.R_append kQ (w0 := w0) base hgd s x 30 53 (.agg #[.bool false, .slice none 0 0, .slice none 0 0]) 56 ho Try.underlying30 info_Q rfl (by decide) (by omega) v xs p cs (fun _ => True) okp hs hx hp (fun k hk => ⟨trivial, hokp k hk⟩) (fun _ _ => trivial) HO HB hbase (by omega) ?_
  intro v1 w1 h1 h2 _ _
  exact h v1 w1 h1 h2

/-- Numbers whose lists are limbs, and short enough to be reckoned with. -/
def Sm (x : Rw) : Prop := x.2.1.length ≤ 137438953472 ∧ x.2.2.length ≤ 137438953472 ∧ InB B64 x.2.1 ∧ InB B64 x.2.2
def Small (xs : List Rw) : Prop := ∀ x ∈ xs, Sm x
theorem Small.get {xs : List Rw} (h : Small xs) (i : Nat) : Sm (xs.getD i zQ) := by
  rw [List.getD_eq_getElem?_getD]
  rcases Nat.lt_or_ge i xs.length with hi | hi
  · rw [List.getElem?_eq_getElem hi]; exact h _ (List.getElem_mem hi)
  · rw [List.getElem?_eq_none hi]; exact ⟨by simp [zQ], by simp [zQ], InB.nil _, InB.nil _⟩

theorem take_zQ (xs : List Rw) (k : Nat) (hk : k < xs.length) : xs.take (k + 1) = xs.take k ++ [xs.getD k zQ] := by
  rw [List.take_succ_eq_append_getElem hk, List.getD_eq_getElem?_getD, List.getElem?_eq_getElem hk]; rfl

set_option maxRecDepth 10000 in
set_option maxHeartbeats 1000000 in
theorem calc_Copies (A : Option Addr) (n c : Nat) (xs : List Rw) (w : World) (hn : n = xs.length) (hS : Small xs) (hN : n ≤ 1099511627776) (hA : Rq w A xs) :
    Calls Try.prog 59 #[.slice A n c] w fun e w' => ∃ v, e = .returned v ∧ Oq w' w.heap.size v xs ∧ Below w.heap.size w w' := by
  have HN := Lib.hid hn
  have HS := Lib.hid hS
  clear hn hS
  go_enter Try.func59, Try.ntmps59
  go_wp2_with fail
  go_loopw [3, 8] (fun t i wr => ∃ (k : Nat) (v : Value), k ≤ n ∧ i = .int .i64 k ∧ v = t ∧ Oq wr w.heap.size v (xs.take k) ∧ Below w.heap.size w wr) (fun _ i _ => n - (intOf i).toNat)
  case atStart => exact ⟨0, _, Nat.zero_le _, rfl, rfl, Kd.R_nil _ _ _ _ _, Below.refl _ _⟩
  case round =>
    obtain ⟨k, v, hk, rfl, rfl, hO, hb⟩ := hrel
    by_cases hlt : k < n
    · obtain ⟨ad, A1, c1, A2, c2, rfl, e1, e2, e3, g1, g2⟩ := Rq.at (hA.below hb) k (by have := HN.out; omega)
      obtain ⟨p, hp⟩ : ∃ x, xs.getD k zQ = x := ⟨_, rfl⟩
      have hsm := HS.out.get k
      rw [hp] at e1 e2 e3 g1 g2 hsm
      have hsm := Lib.hid hsm
      have HP := Lib.hid hp
      clear hp
      obtain ⟨s, l, m⟩ := p
      have hba : ∀ o, Below wr.heap.size wr (wr.alloc o) := fun o => Below.alloc (Below.refl _ _) (Nat.le_refl _) _
      go_wp2_with fail
      refine (calc_Copy s A1 A2 _ _ _ _ l m _ rfl rfl (Nat.le_trans hsm.out.1 (by decide)) (Nat.le_trans hsm.out.2.1 (by decide)) (g1.below (hba _)) (g2.below (hba _))).mono ?_
      rintro e w1 ⟨q, rfl, hq, hb1⟩
      obtain ⟨v1, v2, rfl, hM⟩ := hq.M
      have hb2 := (hba _).trans (hb1.mono (hba _).size)
      have hO1 := Kd.R_below hO hb2
      have hlt1 := Kd.R_lt hO
      have hB1 := hb.trans (hb2.mono hb.size)
      go_wp2_with (((with_reducible refine gate_builtin (b := .append) (xs := #[.tmp 12, .tmp 15]) rfl ?_); at_builtin; refine wp_appQ (w0 := w) w.heap.size rfl (.tmp 12) (.tmp 15) rfl v (xs.take k) (s, l, m) [.bool s, v1, v2] _ rfl rfl (kQ.M_lower (Nat.le_trans hb.size (hba _).size) hM) (fun k hk e => by have := hlt1 k e.symm; have h3 := hk.1; simp at h3; omega) hO1 hB1 hB1.size (by simp; omega) ?_; intro v3 w3 hO3 hb3))
      exact ⟨⟨k + 1, v3, by omega, by go_num, rfl, by rw [take_zQ _ _ (by have := HN.out; omega), HP.out]; exact hO3, hb3⟩, by simp [intOf]; omega⟩
    · obtain rfl : k = n := by omega
      go_wp2_with fail
      go_ret
      exact ⟨_, rfl, by have := hO; rwa [List.take_of_length_le (by have := HN.out; omega)] at this, hb⟩

set_option maxRecDepth 10000 in
set_option maxHeartbeats 1000000 in
theorem ref3_Twins (A : Option Addr) (n c : Nat) (xs : List Rw) (w : World) (hn : n = xs.length) (hS : Small xs) (hN : n ≤ 1099511627776) (hA : Rq w A xs) :
    Calls Try.prog 26 #[.slice A n c] w fun e w' => ∃ v, e = .returned v ∧ Oq w' w.heap.size v xs ∧ Below w.heap.size w w' := by
  have HN := Lib.hid hn
  have HS := Lib.hid hS
  clear hn hS
  go_enter Try.func26, Try.ntmps26
  go_wp2_with fail
  go_loopw [3, 8] (fun t i wr => ∃ (k : Nat) (v : Value), k ≤ n ∧ i = .int .i64 k ∧ v = t ∧ Oq wr w.heap.size v (xs.take k) ∧ Below w.heap.size w wr) (fun _ i _ => n - (intOf i).toNat)
  case atStart => exact ⟨0, _, Nat.zero_le _, rfl, rfl, Kd.R_nil _ _ _ _ _, Below.refl _ _⟩
  case round =>
    obtain ⟨k, v, hk, rfl, rfl, hO, hb⟩ := hrel
    by_cases hlt : k < n
    · obtain ⟨ad, A1, c1, A2, c2, rfl, e1, e2, e3, g1, g2⟩ := Rq.at (hA.below hb) k (by have := HN.out; omega)
      obtain ⟨p, hp⟩ : ∃ x, xs.getD k zQ = x := ⟨_, rfl⟩
      have hsm := HS.out.get k
      rw [hp] at e1 e2 e3 g1 g2 hsm
      have hsm := Lib.hid hsm
      have HP := Lib.hid hp
      clear hp
      obtain ⟨s, l, m⟩ := p
      have hba : ∀ o, Below wr.heap.size wr (wr.alloc o) := fun o => Below.alloc (Below.refl _ _) (Nat.le_refl _) _
      go_wp2_with fail
      refine (ref3_Twin s A1 A2 _ _ _ _ l m _ rfl rfl (Nat.le_trans hsm.out.1 (by decide)) (Nat.le_trans hsm.out.2.1 (by decide)) (g1.below (hba _)) (g2.below (hba _))).mono ?_
      rintro e w1 ⟨q, rfl, hq, hb1⟩
      obtain ⟨v1, v2, rfl, hM⟩ := hq.M
      have hb2 := (hba _).trans (hb1.mono (hba _).size)
      have hO1 := Kd.R_below hO hb2
      have hlt1 := Kd.R_lt hO
      have hB1 := hb.trans (hb2.mono hb.size)
      go_wp2_with (((with_reducible refine gate_builtin (b := .append) (xs := #[.tmp 12, .tmp 15]) rfl ?_); at_builtin; refine wp_appQ (w0 := w) w.heap.size rfl (.tmp 12) (.tmp 15) rfl v (xs.take k) (s, l, m) [.bool s, v1, v2] _ rfl rfl (kQ.M_lower (Nat.le_trans hb.size (hba _).size) hM) (fun k hk e => by have := hlt1 k e.symm; have h3 := hk.1; simp at h3; omega) hO1 hB1 hB1.size (by simp; omega) ?_; intro v3 w3 hO3 hb3))
      exact ⟨⟨k + 1, v3, by omega, by go_num, rfl, by rw [take_zQ _ _ (by have := HN.out; omega), HP.out]; exact hO3, hb3⟩, by simp [intOf]; omega⟩
    · obtain rfl : k = n := by omega
      go_wp2_with fail
      go_ret
      exact ⟨_, rfl, by have := hO; rwa [List.take_of_length_le (by have := HN.out; omega)] at this, hb⟩
end Go.Proofs.Ytajahomfmcbmlaa.T
