/-
Words that the walks of this claim share: rows of limbs that are read or that are the call's own, and how they stand through a call.
-/
import Derived.Test.YtajahomfmcbmlaaProg
import Derived.Test.YtajahomfmcbmlaaWMore
import Derived.Test.YtajahomfmcbmlaaNum
import Derived.Outline
import Derived.Lib.Hide
namespace Go.Proofs.Ytajahomfmcbmlaa.T
open Go.RowKit Go.Proofs.YtajahomfmcbmlaaW.PrintWords Go.Proofs.YtajahomfmcbmlaaW.PrintLast Go.Proofs.YtajahomfmcbmlaaW.PrintMore

/-- The base of the limbs; of the digits of the references. -/
def B64 : Nat := 18446744073709551616
def B32 : Nat := 4294967296
theorem two_le_B64 : 2 ≤ B64 := by decide
theorem two_le_B32 : 2 ≤ B32 := by decide

/-- A slice of limbs that reads as l. A row of limbs of one's own. -/
abbrev Rl (w : World) (A : Option Addr) (l : List Int) : Prop := Kd.C (Kd.int .u64) w A l.length l
abbrev Ol (w : World) (base : Nat) (v : Value) (l : List Int) : Prop := Kd.R (Kd.int .u64) 50 w base (fun _ => True) v l

theorem bcell {W w1 : World} (hb : Below W.heap.size W w1) : (∀ b o, b < W.heap.size → w1.cell? ⟨b, o, none⟩ = W.cell? ⟨b, o, none⟩) ∧ (∀ b o, b < W.heap.size → w1.frozen? ⟨b, o, none⟩ = W.frozen? ⟨b, o, none⟩) :=
  ⟨fun b o h => hb.cell (p := ⟨b, o, none⟩) h, fun b o h => hb.frozen (p := ⟨b, o, none⟩) h⟩

theorem Rl.len {w : World} {A : Option Addr} {l : List Int} (h : Rl w A l) : l.length ≤ 9223372036854775807 := h.2.1

/-- The limb at a place. -/
theorem Rl.at {w : World} {A : Option Addr} {l : List Int} (h : Rl w A l) (i : Nat) (hi : i < l.length) : ∃ ad, A = some ad ∧ w.cell? (ad.add i) = some (.int .u64 (l.getD i 0)) := by
  obtain ⟨ad, e, hc⟩ := Kd.at_int h (i : Int) (by omega) (by omega)
  exact ⟨ad, e, by simpa [rd] using hc⟩

theorem Ol.len {w : World} {base : Nat} {v : Value} {l : List Int} (h : Ol w base v l) : l.length ≤ 9223372036854775807 := by
  obtain ⟨A, c, _, _, hC⟩ := Kd.R_reads h
  exact hC.2.1

theorem ret_int {k : IntKind} {a b : Int} (h : a = b) : Ending.returned (.int k a) = .returned (.int k b) := by rw [h]
theorem ret_bool {a b : Bool} (h : a = b) : Ending.returned (.bool a) = .returned (.bool b) := by rw [h]

end Go.Proofs.Ytajahomfmcbmlaa.T
