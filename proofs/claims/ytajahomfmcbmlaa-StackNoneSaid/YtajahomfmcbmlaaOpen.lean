/-
How an argument that reads as data is laid open, type by type.
-/
import Derived.Test.YtajahomfmcbmlaaRats
import Derived.Deep.Slices
import Derived.Deep.Fields
import Derived.ChangeSame
import Derived.ChangeArms
import Derived.WideShapes
namespace Go.Proofs.Ytajahomfmcbmlaa.T
open Go.RowKit Go.ChangeShapes Go.WideShapes Go.Deep Go.Proofs.YtajahomfmcbmlaaW.PrintWords Go.Proofs.YtajahomfmcbmlaaW.PrintLast Go.Proofs.YtajahomfmcbmlaaW.PrintMore
set_option linter.unusedVariables false

/-- What reads as data at a type reads as a value of a kind, and keeps a condition. -/
def Opn {α : Type} (t : TypeId) (k : Kd α) (ok : α → Prop) : Prop :=
  ∀ {H : Type} (enc : TypeId × Value → H) (W : World) (fuel : Nat) (cs : List Value) (x : DataW H × List MemPlace), DataW.trod enc Try.prog W 0 (fun _ => true) true fuel t cs = some x → ∃ a : α, k.K W a cs ∧ ok a

theorem Opn.int {t : TypeId} {k : IntKind} (ht : Try.prog.underlying t = some (.int k)) : Opn t (Kd.int k) (fun n => (Lit.int k n).wf = true) := fun enc W fuel cs x h => by
  obtain ⟨n, rfl, _, hw⟩ := DataW.trod_int ht h
  exact ⟨n, rfl, hw⟩
theorem Opn.bool {t : TypeId} (ht : Try.prog.underlying t = some .bool) : Opn t Kd.bool (fun _ => True) := fun enc W fuel cs x h => by
  obtain ⟨n, rfl, _⟩ := DataW.trod_bool ht h
  exact ⟨n, rfl, trivial⟩
theorem Opn.string {t : TypeId} (ht : Try.prog.underlying t = some .string) : Opn t Kd.string (fun s => s.size ≤ maxLen) := fun enc W fuel cs x h => by
  obtain ⟨n, rfl, _, hw⟩ := DataW.trod_string ht h
  exact ⟨n, rfl, hw⟩

theorem list_of {α : Type} {Q : Nat → α → Prop} : ∀ n, (∀ i, i < n → ∃ a, Q i a) → ∃ xs : List α, xs.length = n ∧ ∀ i a, xs[i]? = some a → Q i a := by
  intro n
  induction n with
  | zero => intro _; exact ⟨[], rfl, fun i a h => by simp at h⟩
  | succ n ih =>
    intro h
    obtain ⟨xs, h1, h2⟩ := ih (fun i hi => h i (by omega))
    obtain ⟨a, ha⟩ := h n (by omega)
    refine ⟨xs ++ [a], by simp [h1], fun i b hb => ?_⟩
    by_cases hi : i < n
    · rw [List.getElem?_append_left (by omega)] at hb; exact h2 i b hb
    · rw [List.getElem?_append_right (by omega)] at hb
      have : i - xs.length = 0 := by
        by_cases h0 : i - xs.length = 0
        · exact h0
        · rw [List.getElem?_eq_none (by simp; omega)] at hb; cases hb
      rw [this] at hb
      have e : i = n := by omega
      subst e
      simp at hb
      subst hb
      exact ha

theorem Opn.slice {α : Type} {t e : TypeId} {k : Kd α} {ok : α → Prop} (ht : Try.prog.underlying t = some (.slice e)) (hC : Try.prog.cellsOf e = k.sz) (h : Opn e k ok) : Opn t (Kd.slice e k) (fun xs => ∀ x ∈ xs, ok x) := fun enc W fuel cs x hx => by
  rcases open_slice ht hx with ⟨rfl, _⟩ | ⟨a, len, cap, m, n, D, Pl, rfl, _, hl, hm, hmm, _, hi⟩
  · exact ⟨[], ⟨none, 0, rfl, Nat.le_refl _, Kd.C_nil _ _⟩, fun x hx => by simp at hx⟩
  · have hml : len ≤ m := by rw [hmm]; split <;> omega
    obtain ⟨xs, h1, h2⟩ := list_of (Q := fun i b => (∃ cs', cs'.length = k.sz ∧ k.K W b cs' ∧ ∀ j u, cs'[j]? = some u → W.cell? (a.add (i * k.sz + j)) = some u) ∧ ok b) len (fun i hil => by
      obtain ⟨cs', hc, ht'⟩ := hi i (by omega)
      obtain ⟨b, hK, hok⟩ := h enc W n cs' _ ht'
      rw [hC] at hc
      obtain ⟨_, hcl, hat⟩ := World.cells?_some hc
      refine ⟨b, ⟨cs', hcl, hK, fun j u hj => ?_⟩, hok⟩
      have hjl : j < k.sz := by rw [← hcl]; exact (List.getElem?_eq_some_iff.1 hj).1
      rw [← Go.Deep.add_add, hat j hjl, hj])
    subst h1
    refine ⟨xs, ⟨some a, cap, rfl, hl, ⟨rfl, by unfold maxLen at hm; omega, fun _ => ⟨a, rfl, fun j p hj => (h2 j p hj).1⟩⟩⟩, fun x hx => ?_⟩
    obtain ⟨i, hi, rfl⟩ := List.getElem_of_mem hx
    exact (h2 i _ (List.getElem?_eq_getElem hi)).2

/-- The same, of a struct's fields from a place on. -/
def OpnL {α : Type} (fs : List Field) (o : Nat) (k : Kd α) (ok : α → Prop) : Prop :=
  ∀ {H : Type} (enc : TypeId × Value → H) (W : World) (n : Nat) (cs : List Value), (∀ (j : Nat) (f : Field), fs[j]? = some f → ∃ y : DataW H × List MemPlace, DataW.trod enc Try.prog W 0 (fun _ => true) true n f.type ((cs.drop f.offset).take (Try.prog.cellsOf f.type)) = some y) → cs.length = o + k.sz → ∃ a : α, k.K W a (cs.drop o) ∧ ok a
theorem OpnL.last {α : Type} {f : Field} {k : Kd α} {ok : α → Prop} (hC : Try.prog.cellsOf f.type = k.sz) (h : Opn f.type k ok) : OpnL [f] f.offset k ok := fun enc W n cs hf hl => by
  obtain ⟨y, hy⟩ := hf 0 f rfl
  rw [hC, List.take_of_length_le (by rw [List.length_drop]; omega)] at hy
  exact h enc W n _ y hy
theorem OpnL.cons {α β : Type} {f : Field} {fs : List Field} {k : Kd α} {k' : Kd β} {ok : α → Prop} {ok' : β → Prop} (hC : Try.prog.cellsOf f.type = k.sz) (h : Opn f.type k ok) (h' : OpnL fs (f.offset + k.sz) k' ok') : OpnL (f :: fs) f.offset (Kd.pair k k') (fun x => ok x.1 ∧ ok' x.2) := fun enc W n cs hf hl => by
  obtain ⟨y, hy⟩ := hf 0 f rfl
  rw [hC] at hy
  obtain ⟨a, ha, oa⟩ := h enc W n _ y hy
  obtain ⟨b, hb, ob⟩ := h' enc W n cs (fun j g hg => hf (j + 1) g hg) (by rw [hl]; show _ + (k.sz + k'.sz) = _; omega)
  refine ⟨(a, b), ⟨_, _, ?_, ha, hb⟩, oa, ob⟩
  rw [← List.drop_drop, List.take_append_drop]
theorem Opn.struct {α : Type} {t : TypeId} {fs : Array Field} {k : Kd α} {ok : α → Prop} (ht : Try.prog.underlying t = some (.struct fs)) (hC : Try.prog.cellsOf t = k.sz) (h : OpnL fs.toList 0 k ok) : Opn t k ok := fun enc W fuel cs x hx => by
  obtain ⟨ys, n, _, _, hl, hyl, hf⟩ := DataW.trod_struct ht hx
  have := h enc W n cs (fun j f hj => by
    have hj' : fs[j]? = some f := by simpa using hj
    have hjl : j < ys.length := by rw [hyl]; exact (Array.getElem?_eq_some_iff.1 hj').1
    exact ⟨ys[j], (hf j f hj').trans (List.getElem?_eq_getElem hjl)⟩) (by omega)
  simpa using this

theorem opn_u64s : Opn 51 (Kd.slice 50 (Kd.int .u64)) (fun xs => ∀ x ∈ xs, (Lit.int .u64 x).wf = true) := Opn.slice Try.underlying51 (by kernel_rfl) (Opn.int Try.underlying50)
theorem opn_Rat : Opn 53 kQ (fun x => True ∧ (∀ y ∈ x.2.1, (Lit.int .u64 y).wf = true) ∧ ∀ y ∈ x.2.2, (Lit.int .u64 y).wf = true) :=
  Opn.struct Try.underlying53 (by kernel_rfl) (OpnL.cons (by kernel_rfl) (Opn.bool Try.underlying4) (OpnL.cons (by kernel_rfl) opn_u64s (OpnL.last (by kernel_rfl) opn_u64s)))
abbrev RsOk (xs : List Rw) : Prop := ∀ x ∈ xs, True ∧ (∀ y ∈ x.2.1, (Lit.int .u64 y).wf = true) ∧ ∀ y ∈ x.2.2, (Lit.int .u64 y).wf = true
abbrev kRs : Kd (List Rw) := Kd.slice 53 kQ
theorem opn_Rats : Opn 30 kRs RsOk := Opn.slice Try.underlying30 (by kernel_rfl) opn_Rat
theorem inB_wf {l : List Int} (h : ∀ y ∈ l, (Lit.int .u64 y).wf = true) : InB B64 l := fun y hy => by
  have := h y hy
  simp only [Lit.wf] at this
  have h0 : IntKind.u64.min = 0 := rfl
  have h1 : IntKind.u64.max = 18446744073709551615 := rfl
  have h2 : ((B64 : Nat) : Int) = 18446744073709551616 := rfl
  simp at this
  omega

/-- A list of numbers that came in. -/
structure Arg (w : World) (A : Option Addr) (xs : List Rw) : Prop where
  reads : Rq w A xs
  inb : ∀ x ∈ xs, InB B64 x.2.1 ∧ InB B64 x.2.2
theorem Arg.of {w : World} {xs : List Rw} {cs : List Value} (h : (Kd.slice 53 kQ).K w xs cs) (ok : ∀ x ∈ xs, True ∧ (∀ y ∈ x.2.1, (Lit.int .u64 y).wf = true) ∧ ∀ y ∈ x.2.2, (Lit.int .u64 y).wf = true) : ∃ A c, cs = [.slice A xs.length c] ∧ Arg w A xs := by
  obtain ⟨A, c, rfl, _, hC⟩ := h
  exact ⟨A, c, rfl, hC, fun x hx => ⟨inB_wf (ok x hx).2.1, inB_wf (ok x hx).2.2⟩⟩
theorem opn_Cert : Opn 32 (Kd.pair kRs (Kd.pair kRs (Kd.pair kRs kRs))) (fun x => RsOk x.1 ∧ RsOk x.2.1 ∧ RsOk x.2.2.1 ∧ RsOk x.2.2.2) := Opn.struct Try.underlying32 (by kernel_rfl) (OpnL.cons (by kernel_rfl) opn_Rats (OpnL.cons (by kernel_rfl) opn_Rats (OpnL.cons (by kernel_rfl) opn_Rats (OpnL.last (by kernel_rfl) opn_Rats))))
set_option maxRecDepth 100000 in
theorem open_Cert {H : Type} {enc : TypeId × Value → H} {W : World} {r : Reach} {b0 : Nat} {v : Value} {d : DataW H} {p : List MemPlace} (hv : Value.okWide Try.prog W r b0 32 v) (h : DataW.Trod enc Try.prog W 0 (fun _ => true) true 32 v d p) :
    ∃ A B C D c0 c1 c2 c3 xs0 xs1 xs2 xs3, v = .agg #[.slice A xs0.length c0, .slice B xs1.length c1, .slice C xs2.length c2, .slice D xs3.length c3] ∧ Arg W A xs0 ∧ Arg W B xs1 ∧ Arg W C xs2 ∧ Arg W D xs3 := by
  obtain ⟨cs, rfl, _⟩ := okWide_struct Try.underlying32 hv
  obtain ⟨l⟩ := cs
  obtain ⟨fuel, hf⟩ := h
  obtain ⟨⟨xs0, xs1, xs2, xs3⟩, hK, o0, o1, o2, o3⟩ := opn_Cert enc W fuel _ _ hf
  obtain ⟨l0, l1, e0, k0, _, _, rfl, k1, _, _, rfl, k2, k3⟩ := hK
  obtain ⟨A, c0, rfl, h0⟩ := Arg.of k0 o0
  obtain ⟨B, c1, rfl, h1⟩ := Arg.of k1 o1
  obtain ⟨C, c2, rfl, h2⟩ := Arg.of k2 o2
  obtain ⟨D, c3, rfl, h3⟩ := Arg.of k3 o3
  have e1 : l = [.slice A xs0.length c0, .slice B xs1.length c1, .slice C xs2.length c2, .slice D xs3.length c3] := by simpa [Value.cells] using e0
  subst e1
  exact ⟨A, B, C, D, c0, c1, c2, c3, xs0, xs1, xs2, xs3, rfl, h0, h1, h2, h3⟩
theorem opn_Point : Opn 43 (Kd.pair kRs (Kd.pair kRs kRs)) (fun x => RsOk x.1 ∧ RsOk x.2.1 ∧ RsOk x.2.2) := Opn.struct Try.underlying43 (by kernel_rfl) (OpnL.cons (by kernel_rfl) opn_Rats (OpnL.cons (by kernel_rfl) opn_Rats (OpnL.last (by kernel_rfl) opn_Rats)))
set_option maxRecDepth 100000 in
theorem open_Point {H : Type} {enc : TypeId × Value → H} {W : World} {r : Reach} {b0 : Nat} {v : Value} {d : DataW H} {p : List MemPlace} (hv : Value.okWide Try.prog W r b0 43 v) (h : DataW.Trod enc Try.prog W 0 (fun _ => true) true 43 v d p) :
    ∃ A B C c0 c1 c2 xs0 xs1 xs2, v = .agg #[.slice A xs0.length c0, .slice B xs1.length c1, .slice C xs2.length c2] ∧ Arg W A xs0 ∧ Arg W B xs1 ∧ Arg W C xs2 := by
  obtain ⟨cs, rfl, _⟩ := okWide_struct Try.underlying43 hv
  obtain ⟨l⟩ := cs
  obtain ⟨fuel, hf⟩ := h
  obtain ⟨⟨xs0, xs1, xs2⟩, hK, o0, o1, o2⟩ := opn_Point enc W fuel _ _ hf
  obtain ⟨l0, l1, e0, k0, _, _, rfl, k1, k2⟩ := hK
  obtain ⟨A, c0, rfl, h0⟩ := Arg.of k0 o0
  obtain ⟨B, c1, rfl, h1⟩ := Arg.of k1 o1
  obtain ⟨C, c2, rfl, h2⟩ := Arg.of k2 o2
  have e1 : l = [.slice A xs0.length c0, .slice B xs1.length c1, .slice C xs2.length c2] := by simpa [Value.cells] using e0
  subst e1
  exact ⟨A, B, C, c0, c1, c2, xs0, xs1, xs2, rfl, h0, h1, h2⟩
abbrev kSt : Kd (List Int) := Kd.slice 121 (Kd.int .i64)
theorem opn_Sts : Opn 57 kSt (fun xs => ∀ x ∈ xs, (Lit.int .i64 x).wf = true) := Opn.slice Try.underlying57 (by kernel_rfl) (Opn.int Try.underlying121)
theorem opn_Basis : Opn 59 (Kd.pair kSt kSt) (fun x => (∀ y ∈ x.1, (Lit.int .i64 y).wf = true) ∧ ∀ y ∈ x.2, (Lit.int .i64 y).wf = true) := Opn.struct Try.underlying59 (by kernel_rfl) (OpnL.cons (by kernel_rfl) opn_Sts (OpnL.last (by kernel_rfl) opn_Sts))
set_option maxRecDepth 100000 in
theorem open_Basis {H : Type} {enc : TypeId × Value → H} {W : World} {r : Reach} {b0 : Nat} {v : Value} {d : DataW H} {p : List MemPlace} (hv : Value.okWide Try.prog W r b0 59 v) (h : DataW.Trod enc Try.prog W 0 (fun _ => true) true 59 v d p) :
    ∃ F G d0 d1 ys0 ys1, v = .agg #[.slice F ys0.length d0, .slice G ys1.length d1] ∧ Kd.C (Kd.int .i64) W F ys0.length ys0 ∧ Kd.C (Kd.int .i64) W G ys1.length ys1 := by
  obtain ⟨cs, rfl, _⟩ := okWide_struct Try.underlying59 hv
  obtain ⟨l⟩ := cs
  obtain ⟨fuel, hf⟩ := h
  obtain ⟨⟨ys0, ys1⟩, hK, o0, o1⟩ := opn_Basis enc W fuel _ _ hf
  obtain ⟨l0, l1, e0, ⟨F, d0, rfl, _, g0⟩, ⟨G, d1, rfl, _, g1⟩⟩ := hK
  have e1 : l = [.slice F ys0.length d0, .slice G ys1.length d1] := by simpa [Value.cells] using e0
  subst e1
  exact ⟨F, G, d0, d1, ys0, ys1, rfl, g0, g1⟩
end Go.Proofs.Ytajahomfmcbmlaa.T
