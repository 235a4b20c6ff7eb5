/-
The kit's contracts of math/bits at this program (laid by the kit's lay-shelf and lay-plain).
-/
import Derived.Shelf.Bits.Mul64
import Derived.Shelf.Small.Bits
import Derived.Shelf.Strconv.Itoa0
import Derived.Lib.ItoaNum
import Derived.Test.YtajahomfmcbmlaaBase
namespace Go.Proofs
open Go.Shelf
def Try.lays264_ren : Go.Shelf.Ren := ⟨fun | 264 => 155 | n => n, fun | 53 => 50 | 46 => 157 | n => n, fun | n => n⟩
theorem Try.lays264 : Go.Proofs.Lays.n264 Try.prog Try.lays264_ren := {
  mixed := by kernel_rfl
  f264 := Try.func155.trans (congrArg some (by kernel_rfl))
  t46 := Try.underlying157
  a46 := Try.isAgg157
  z46 := Try.sizeOf157
  v46 := Try.zeroValue157
  t53 := Try.underlying50
  a53 := Try.isAgg50
  z53 := Try.sizeOf50
  v53 := Try.zeroValue50 }
def Try.lays134_ren : Go.Shelf.Ren := ⟨fun | 134 => 140 | 129 => 147 | n => n, fun | 53 => 50 | 3 => 3 | 4 => 4 | 46 => 157 | 5 => 5 | 9 => 9 | n => n, fun | n => n⟩
theorem Try.lays134 : Go.Proofs.Lays.n134 Try.prog Try.lays134_ren := {
  mixed := by kernel_rfl
  f129 := Try.func147.trans (congrArg some (by kernel_rfl))
  f134 := Try.func140.trans (congrArg some (by kernel_rfl))
  t3 := Try.underlying3
  a3 := Try.isAgg3
  z3 := Try.sizeOf3
  v3 := Try.zeroValue3
  t4 := Try.underlying4
  a4 := Try.isAgg4
  z4 := Try.sizeOf4
  v4 := Try.zeroValue4
  t5 := Try.underlying5
  a5 := Try.isAgg5
  z5 := Try.sizeOf5
  v5 := Try.zeroValue5
  t9 := Try.underlying9
  a9 := Try.isAgg9
  z9 := Try.sizeOf9
  v9 := Try.zeroValue9
  t46 := Try.underlying157
  a46 := Try.isAgg157
  z46 := Try.sizeOf157
  v46 := Try.zeroValue157
  t53 := Try.underlying50
  a53 := Try.isAgg50
  z53 := Try.sizeOf50
  v53 := Try.zeroValue50 }
end Go.Proofs
namespace Go.Proofs.Ytajahomfmcbmlaa.T
open Go.RowKit
def mulH (x y : Int) : Int := x * y / 18446744073709551616
def mulL (x y : Int) : Int := x * y % 18446744073709551616
theorem bits_Mul64 (x y : Int) (hx : 0 ≤ x ∧ x < B64) (hy : 0 ≤ y ∧ y < B64) (w : World) :
    Calls Try.prog 155 #[.int .u64 x, .int .u64 y] w fun e w' => e = .returned (.tuple #[.int .u64 (mulH x y), .int .u64 (mulL x y)]) ∧ w = w' := by
  obtain ⟨X, rfl⟩ := Int.eq_ofNat_of_zero_le hx.1
  obtain ⟨Y, rfl⟩ := Int.eq_ofNat_of_zero_le hy.1
  have h1 := hx.2
  have h2 := hy.2
  unfold B64 at h1 h2
  refine (Any.bits_Mul64 Try.lays264 X Y (by omega) (by omega) w).mono ?_
  rintro e w' ⟨rfl, rfl⟩
  refine ⟨?_, rfl⟩
  unfold mulH mulL
  simp only [Int.natCast_ediv, Int.natCast_emod, Int.natCast_mul]
  rfl

/-- How far a number above 0 can be shifted to the left. -/
theorem bits_LeadingZeros64 (x : Int) (hx : 0 < x ∧ x < B64) (w : World) :
    Calls Try.prog 140 #[.int .u64 x] w fun e w' => ∃ s : Nat, s < 64 ∧ e = .returned (.int .i64 s) ∧ Hid (9223372036854775808 ≤ x * 2 ^ s) ∧ Hid (x * 2 ^ s < B64) ∧ w = w' := by
  obtain ⟨X, rfl⟩ := Int.eq_ofNat_of_zero_le (show 0 ≤ x by omega)
  have h2 := hx.2
  unfold B64 at h2
  refine (Any.bits_LeadingZeros64 Try.lays134 (X : Int) w (by omega) (by omega)).mono ?_
  rintro e w' ⟨rfl, rfl⟩
  rw [Int.toNat_natCast]
  obtain ⟨b1, b2, b3⟩ := Lib.bitLenAux_bounds 64 X (by omega) (by omega)
  have b4 : Lib.bitLenAux 64 X ≤ 64 := by
    rcases Nat.lt_or_ge 64 (Lib.bitLenAux 64 X) with h | h
    · have := Nat.pow_le_pow_right (show 0 < 2 by omega) (show 64 ≤ Lib.bitLenAux 64 X - 1 by omega)
      omega
    · exact h
  have e1 : Lib.bitLen X = Lib.bitLenAux 64 X := rfl
  rw [e1]
  generalize Lib.bitLenAux 64 X = n at *
  refine ⟨64 - n, by omega, by rw [Int.natCast_sub b4]; rfl, ?_, ?_, rfl⟩
  · have h3 : 2 ^ (n - 1) * 2 ^ (64 - n) ≤ X * 2 ^ (64 - n) := Nat.mul_le_mul_right _ b2
    rw [← Nat.pow_add, show n - 1 + (64 - n) = 63 from by omega] at h3
    show (9223372036854775808 : Int) ≤ (X : Int) * 2 ^ (64 - n)
    have h4 : ((X * 2 ^ (64 - n) : Nat) : Int) = (X : Int) * 2 ^ (64 - n) := by simp
    rw [← h4]; omega
  · have h3 : X * 2 ^ (64 - n) < 2 ^ n * 2 ^ (64 - n) := Nat.mul_lt_mul_of_pos_right b3 (Nat.two_pow_pos _)
    rw [← Nat.pow_add, show n + (64 - n) = 64 from by omega] at h3
    show (X : Int) * 2 ^ (64 - n) < (B64 : Int)
    have h4 : ((X * 2 ^ (64 - n) : Nat) : Int) = (X : Int) * 2 ^ (64 - n) := by simp
    rw [← h4]; unfold B64; omega
end Go.Proofs.Ytajahomfmcbmlaa.T
