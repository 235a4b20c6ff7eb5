/-
What the carries of math/bits answer, and rows of limbs that are written.
-/
import Derived.Test.YtajahomfmcbmlaaBase
import Derived.Laws.Externs
namespace Go.Proofs.Ytajahomfmcbmlaa.T
open Go.RowKit Go.Proofs.YtajahomfmcbmlaaW.PrintWords Go.Proofs.YtajahomfmcbmlaaW.PrintLast Go.Proofs.YtajahomfmcbmlaaW.PrintMore
set_option linter.unusedVariables false

def addS (x y c : Int) : Int := (x + y + c) % 18446744073709551616
def addC (x y c : Int) : Int := (x + y + c) / 18446744073709551616
def subS (x y c : Int) : Int := (x - y - c) % 18446744073709551616
def subC (x y c : Int) : Int := if x < y + c then 1 else 0

theorem addS_range (x y c : Int) : 0 ≤ addS x y c ∧ addS x y c < B64 := by unfold addS B64; omega
theorem subS_range (x y c : Int) : 0 ≤ subS x y c ∧ subS x y c < B64 := by unfold subS B64; omega
theorem addS_addC (x y c : Int) : addS x y c + B64 * addC x y c = x + y + c := by unfold addS addC B64; omega
theorem addC_range {x y c : Int} (hx : 0 ≤ x ∧ x < B64) (hy : 0 ≤ y ∧ y < B64) (hc : 0 ≤ c ∧ c ≤ 1) : 0 ≤ addC x y c ∧ addC x y c ≤ 1 := by unfold B64 at *; unfold addC; omega
theorem subC_range (x y c : Int) : 0 ≤ subC x y c ∧ subC x y c ≤ 1 := by unfold subC; split <;> omega
theorem subS_subC {x y c : Int} (hx : 0 ≤ x ∧ x < B64) (hy : 0 ≤ y ∧ y < B64) (hc : 0 ≤ c ∧ c ≤ 1) : subS x y c - B64 * subC x y c = x - y - c := by unfold B64 at *; unfold subS subC; split <;> omega

theorem run_Add64 (x y c : Int) (hx : 0 ≤ x) (hy : 0 ≤ y) (hc0 : 0 ≤ c) (hc : c ≤ 1) (w : World) :
    (callFunc 156 #[.int .u64 x, .int .u64 y, .int .u64 c]).run Try.prog w = .ok (.value (.tuple #[.int .u64 (addS x y c), .int .u64 (addC x y c)])) w := by
  rw [run_callFunc_extern Try.func156 (by kernel_rfl) (by kernel_rfl) (by kernel_rfl) (e := add64Entry) (by kernel_rfl), run_add64 x y c hx hy hc0 hc]
  rfl

def sub64Entry : Array Value → Sem Value := fun args => do
  let (x, y, b) ← Extern.MathBitsCarry.three "Sub64" args
  pure (Extern.MathBitsCarry.pair ((x + Extern.MathBitsCarry.m64 - y - b) % Extern.MathBitsCarry.m64) (if x < y + b then 1 else 0))

theorem run_Sub64 (x y c : Int) (hx : 0 ≤ x) (hy : 0 ≤ y ∧ y < B64) (hc0 : 0 ≤ c) (hc : c ≤ 1) (w : World) :
    (callFunc 157 #[.int .u64 x, .int .u64 y, .int .u64 c]).run Try.prog w = .ok (.value (.tuple #[.int .u64 (subS x y c), .int .u64 (subC x y c)])) w := by
  rw [run_callFunc_extern Try.func157 (by kernel_rfl) (by kernel_rfl) (by kernel_rfl) (e := sub64Entry) (by kernel_rfl)]
  obtain ⟨X, rfl⟩ := Int.eq_ofNat_of_zero_le hx
  obtain ⟨Y, rfl⟩ := Int.eq_ofNat_of_zero_le hy.1
  have h64 := hy.2
  unfold B64 at h64
  have key : (sub64Entry #[.int .u64 (X : Int), .int .u64 (Y : Int), .int .u64 c]).run Try.prog w = .ok (Extern.MathBitsCarry.pair ((X + Extern.MathBitsCarry.m64 - Y - c.toNat) % Extern.MathBitsCarry.m64) (if X < Y + c.toNat then 1 else 0)) w := by
    have : c = 0 ∨ c = 1 := by omega
    rcases this with rfl | rfl <;> rfl
  rw [key]
  have e1 : Int.ofNat ((X + Extern.MathBitsCarry.m64 - Y - c.toNat) % Extern.MathBitsCarry.m64) = subS X Y c := by
    unfold subS Extern.MathBitsCarry.m64; simp only [Int.ofNat_eq_natCast, Int.natCast_emod]; omega
  have e2 : Int.ofNat (if X < Y + c.toNat then 1 else 0) = subC X Y c := by unfold subC; split <;> split <;> first | rfl | omega
  simp only [Extern.MathBitsCarry.pair, Result.andThen, e1, e2]

theorem info_u64 : (Try.prog.info? 50).map (fun i => (i.zero, i.size, i.bytes)) = some (some (.int .u64 0), 1, 8) := by kernel_rfl

theorem Ol.shape {w : World} {base : Nat} {v : Value} {l : List Int} (h : Ol w base v l) (hp : 0 < l.length) : ∃ g cap, v = .slice (some ⟨g, 0, none⟩) l.length cap ∧ base ≤ g ∧ g < w.heap.size := by
  obtain ⟨g, cap, e, h1, h2, _⟩ := Kd.R_form h hp
  exact ⟨g, cap, e, h1, h2⟩
theorem Ol.form {w : World} {base n c : Nat} {A : Option Addr} {l : List Int} (h : Ol w base (.slice A n c) l) (hp : 0 < l.length) : ∃ g, A = some ⟨g, 0, none⟩ ∧ base ≤ g ∧ g < w.heap.size := by
  obtain ⟨g, cap, e, h1, h2, _⟩ := Kd.R_form h hp
  injection e with e1 _ _
  exact ⟨g, e1, h1, h2⟩
theorem Ol.cellAt {w : World} {base g n c : Nat} {l : List Int} (h : Ol w base (.slice (some ⟨g, 0, none⟩) n c) l) (i : Nat) (hi : i < l.length) : w.cell? ⟨g, i, none⟩ = some (.int .u64 (l.getD i 0)) ∧ w.frozen? ⟨g, i, none⟩ = false := by
  have hn : n = l.length := (Kd.R_reads' h).1
  have := Kd.R_celln (0 : Int) h (i : Int) (by omega) (by omega)
  simpa [rdOf] using this
theorem Ol.put {w : World} {base g n c : Nat} {l : List Int} (h : Ol w base (.slice (some ⟨g, 0, none⟩) n c) l) (i : Nat) (x : Int) : Ol (w.setCell ⟨g, i, none⟩ (.int .u64 x)) base (.slice (some ⟨g, 0, none⟩) n c) (l.set i x) := by
  have := Kd.R_putn h (i : Int) x
  rw [Int.toNat_natCast] at this
  exact this

/-- The limb at a place, under a name. -/
theorem Rl.get {w : World} {A : Option Addr} {l : List Int} (h : Rl w A l) (hB : InB B64 l) (i : Nat) (hi : i < l.length) : ∃ ad y, A = some ad ∧ w.cell? (ad.add i) = some (.int .u64 y) ∧ Hid (l.getD i 0 = y) ∧ 0 ≤ y ∧ Hid (y < B64) := by
  obtain ⟨ad, e, hc⟩ := Rl.at h i hi
  have := hB.getD (by decide) i
  exact ⟨ad, _, e, hc, rfl, this.1, this.2⟩

/-- 'make([]uint64, n)'. -/
theorem wp_make {ops : Array Oper} {Q : Exit → Act → World → Prop} {rest : List Oper} {o : Oper} {a : Act} {w0 W : World} (base : Nat) {N : Tmp} (hgd : o.guard = none) (hd : o.dst = some N) (x y : Operand) (ho : o.op = .makeSlice 51 x y) (n : Nat) (hx : a.eval x = .int .i64 n) (hy : a.eval y = .int .i64 n)
    (hl : n ≤ 35184372088832) (HB : Below base w0 W) (hbase : base ≤ W.heap.size)
    (h : ∀ v1 w1, Ol w1 base v1 (List.replicate n 0) → Below base w0 w1 → wpList Try.prog ops Q rest (a.put o.dst v1) w1) : wpList Try.prog ops Q (o :: rest) a W := by
  refine Kd.R_make (Kd.int .u64) base 50 hgd hd 51 x y ho n hx hy Try.underlying51 (.int .u64 0) 8 info_u64 rfl (by decide) (by omega) 0 (okp := fun _ => True) rfl (fun _ _ => trivial) trivial (by omega) (by simp only [Int.toNat_natCast]; omega) HB hbase ?_
  intro v1 w1 h1 h2 _ _
  rw [Int.toNat_natCast] at h1
  exact h v1 w1 h1 h2

/-- 'append(s, xs...)' of limbs. -/
theorem wp_append {ops : Array Oper} {Q : Exit → Act → World → Prop} {rest : List Oper} {o : Oper} {a : Act} {w0 W : World} (base : Nat) (hgd : o.guard = none) (s x : Operand)
    (ho : o.op = .call { callee := .builtin .append, args := #[s, x], argTypes := #[51, 51] }) (v : Value) (xs ys : List Int) (A : Option Addr) (m c : Nat) (hs : a.eval s = v) (hx : a.eval x = .slice A m c)
    (HO : Ol W base v xs) (HR : Kd.C (Kd.int .u64) W A m ys) (HB : Below base w0 W) (hbase : base ≤ W.heap.size) (hl : xs.length + m ≤ 17592186044416)
    (h : ∀ v1 w1, Ol w1 base v1 (xs ++ ys) → Below base w0 w1 → wpList Try.prog ops Q rest (a.put o.dst v1) w1) : wpList Try.prog ops Q (o :: rest) a W := by
  refine Kd.R_append_rows (Kd.int .u64) (w0 := w0) base hgd s x 51 50 (.int .u64 0) 8 ho Try.underlying51 info_u64 rfl (by decide) (by omega) v xs ys A m c (fun _ => True) (fun _ => False) hs hx HO HR (fun _ _ h => h) (fun _ h => h.elim) (fun _ _ => trivial) HB hbase (by omega) ?_
  intro v1 w1 h1 h2 _ _
  exact h v1 w1 h1 h2

/-- A literal list of limbs. -/
theorem wp_lit {ops : Array Oper} {Q : Exit → Act → World → Prop} {rest : List Oper} {o : Oper} {a : Act} {w0 W : World} (base : Nat) (hgd : o.guard = none) {N : Tmp} (hd : o.dst = some N) (xs : List Int)
    (hrun : (execOp a.eval o).run Try.prog W = .ok (.value (.slice (some ⟨W.heap.size, 0, none⟩) xs.length xs.length)) (W.alloc (.cells (xs.map (Value.int .u64)).toArray 50))) (HB : Below base w0 W) (hbase : base ≤ W.heap.size) (hl : xs.length ≤ 100)
    (h : ∀ v1 w1, Ol w1 base v1 xs → Below base w0 w1 → wpList Try.prog ops Q rest (a.put o.dst v1) w1) : wpList Try.prog ops Q (o :: rest) a W := by
  refine Kd.R_lit (Kd.int .u64) base 50 hgd hd (xs := xs) (inner := xs.map (Value.int .u64)) (ok := fun _ => True) (okp := fun _ => True) hrun ?_ (fun _ _ => trivial) trivial HB hbase (by omega) ?_
  · refine ⟨by simp [Kd.int, Kd.scalar], fun j p hp => ?_⟩
    have hj : j < xs.length := (List.getElem?_eq_some_iff.1 hp).1
    have e : ((xs.map (Value.int .u64)).drop (j * 1)).take 1 = [.int .u64 p] := by
      rw [Nat.mul_one, List.drop_eq_getElem_cons (by simpa using hj)]
      simp [(List.getElem?_eq_some_iff.1 hp).2]
    show _ = _
    exact e
  · intro v1 w1 h1 h2 _ _
    exact h v1 w1 h1 h2
end Go.Proofs.Ytajahomfmcbmlaa.T
