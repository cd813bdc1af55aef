/- Plain facts of the clock's bits: bytes by counting them out, words by their halves. No program in sight. -/
import Derived.Test.YthndmfgmlbdekaaDoorDivider
import Derived.Laws.BitsAllLaws
import Derived.Laws.Bits128
namespace Go.Proofs.YthndmfgmlbdekaaDoor.Bits
open Go Go.RowKit
set_option linter.unusedVariables false
theorem by256 {P : Int → Prop} (h : ∀ n : Nat, n < 256 → P (n : Int)) {x : Int} (h0 : 0 ≤ x) (h1 : x < 256) : P x := by
  obtain ⟨n, rfl⟩ := Int.eq_ofNat_of_zero_le h0
  exact h n (by omega)
variable {p : Int}
theorem top (h0 : 0 ≤ p) (h1 : p < 256) : (bits .and .u8 p 128 != 0) = decide (p ≥ 128) := by256 (P := fun p => (bits .and .u8 p 128 != 0) = decide (p ≥ 128)) (by decide +kernel) h0 h1
theorem top0 (h0 : 0 ≤ p) (h1 : p < 256) : (bits .and .u8 p 128 = 0) = ¬ (p ≥ 128) := propext (by256 (P := fun p => bits .and .u8 p 128 = 0 ↔ ¬ (p ≥ 128)) (by decide +kernel) h0 h1)
theorem mid (h0 : 0 ≤ p) (h1 : p < 256) : (bits .and .u8 p 64 != 0) = decide (((Int.tdiv p 64) % 256) % 2 = 1) := by256 (P := fun p => (bits .and .u8 p 64 != 0) = decide (((Int.tdiv p 64) % 256) % 2 = 1)) (by decide +kernel) h0 h1
theorem low5 (h0 : 0 ≤ p) (h1 : p < 256) : bits .and .u8 p 31 = Int.tmod p 32 := by256 (P := fun p => bits .and .u8 p 31 = Int.tmod p 32) (by decide +kernel) h0 h1
theorem one64 (n : Int) : bits .and .i64 n 1 = 0 ∨ bits .and .i64 n 1 = 1 := by
  have h127 : (BitVec.ofInt 64 1).toNat = 2 ^ 1 - 1 := by decide
  have key : (BitVec.ofInt 64 n &&& BitVec.ofInt 64 1).toNat = (n % ((2 ^ 64 : Nat) : Int)).toNat % 2 ^ 1 := by
    rw [BitVec.toNat_and, BitVec.toNat_ofInt, h127, Nat.and_two_pow_sub_one_eq_mod]
  show IntKind.i64.wrap ((BitVec.ofInt 64 n &&& BitVec.ofInt 64 1).toNat : Nat) = 0 ∨ IntKind.i64.wrap ((BitVec.ofInt 64 n &&& BitVec.ofInt 64 1).toNat : Nat) = 1
  rw [key, IntKind.wrap_i64]
  omega
theorem low8 {x y : Int} (x0 : 0 ≤ x) (x1 : x < 65536) (y0 : 0 ≤ y) (y1 : y < 256) :
    bits .or .u16 (bits .and .u16 x 65280) y = x / 256 * 256 + y := by go_bits2
theorem high8 {x y : Int} (x0 : 0 ≤ x) (x1 : x < 65536) (y0 : 0 ≤ y) (y1 : y < 256) :
    bits .or .u16 (bits .and .u16 x 255) (y * 256) = x % 256 + y * 256 := by go_bits2
end Go.Proofs.YthndmfgmlbdekaaDoor.Bits
