/- Plain laws of flags set one by one, in whatever order; no program is in sight. -/
import Derived.Test.YtajffjhfecckbaaAluBits
namespace Go.Proofs.Ytajffjhfecckbaa.AB
open Go Go.RowKit
set_option linter.unusedVariables false
def pC (p : Int) (b : Bool) : Int := p / 2 * 2 + if b = true then 1 else 0
def pZ (p : Int) (b : Bool) : Int := p / 4 * 4 + (if b = true then 2 else 0) + p % 2
def pV (p : Int) (b : Bool) : Int := p / 128 * 128 + (if b = true then 64 else 0) + p % 64
def pN (p : Int) (b : Bool) : Int := p % 128 + if b = true then 128 else 0
def ind (b : Bool) : Int := if b = true then 1 else 0
variable {p : Int} {a b : Bool}
theorem pC_bd (h0 : 0 ≤ p) (h1 : p < 256) : 0 ≤ pC p b ∧ pC p b < 256 := by cases b <;> simp [pC] <;> omega
theorem pZ_bd (h0 : 0 ≤ p) (h1 : p < 256) : 0 ≤ pZ p b ∧ pZ p b < 256 := by cases b <;> simp [pZ] <;> omega
theorem pV_bd (h0 : 0 ≤ p) (h1 : p < 256) : 0 ≤ pV p b ∧ pV p b < 256 := by cases b <;> simp [pV] <;> omega
theorem pN_bd (h0 : 0 ≤ p) (_h1 : p < 256) : 0 ≤ pN p b ∧ pN p b < 256 := by cases b <;> simp [pN] <;> omega
theorem pC_pC : pC (pC p a) b = pC p b := by cases a <;> cases b <;> simp [pC] <;> omega
theorem pZ_pZ : pZ (pZ p a) b = pZ p b := by cases a <;> cases b <;> simp [pZ] <;> omega
theorem pV_pV : pV (pV p a) b = pV p b := by cases a <;> cases b <;> simp [pV] <;> omega
theorem pN_pN : pN (pN p a) b = pN p b := by cases a <;> cases b <;> simp [pN] <;> omega
theorem pC_pZ : pC (pZ p a) b = pZ (pC p b) a := by cases a <;> cases b <;> simp [pC, pZ] <;> omega
theorem pC_pV : pC (pV p a) b = pV (pC p b) a := by cases a <;> cases b <;> simp [pC, pV] <;> omega
theorem pC_pN : pC (pN p a) b = pN (pC p b) a := by cases a <;> cases b <;> simp [pC, pN] <;> omega
theorem pZ_pV : pZ (pV p a) b = pV (pZ p b) a := by cases a <;> cases b <;> simp [pZ, pV] <;> omega
theorem pZ_pN : pZ (pN p a) b = pN (pZ p b) a := by cases a <;> cases b <;> simp [pZ, pN] <;> omega
theorem pV_pN : pV (pN p a) b = pN (pV p b) a := by cases a <;> cases b <;> simp [pV, pN] <;> omega
theorem pC_8 : pC p b / 8 % 2 = p / 8 % 2 := by cases b <;> simp [pC] <;> omega
theorem pZ_8 : pZ p b / 8 % 2 = p / 8 % 2 := by cases b <;> simp [pZ] <;> omega
theorem pV_8 : pV p b / 8 % 2 = p / 8 % 2 := by cases b <;> simp [pV] <;> omega
theorem pN_8 : pN p b / 8 % 2 = p / 8 % 2 := by cases b <;> simp [pN] <;> omega
theorem fl_mkP (h0 : 0 ≤ p) (h1 : p < 256) (n v z c : Bool) : pN (pV (pZ (pC p c) z) v) n = mkP p (ind n) (ind v) (ind z) (ind c) := by
  cases n <;> cases v <;> cases z <;> cases c <;> simp [pN, pV, pZ, pC, mkP, ind] <;> omega
theorem ind_of {x : Bool} {y : Int} {q : Prop} [Decidable q] (h : x = decide q) (hy : y = if q then 1 else 0) : ind x = y := by
  rw [h, hy]; unfold ind; by_cases hq : q <;> simp [hq]
theorem rest_256 {x : Int} : (if Int.tmod x 256 < 0 then Int.tmod x 256 + 256 else Int.tmod x 256) = x % 256 := by
  by_cases h : 0 ≤ x
  · rw [Int.tmod_eq_emod_of_nonneg h, if_neg (by omega)]
  · obtain ⟨y, rfl⟩ : ∃ y, x = -y := ⟨-x, by omega⟩
    rw [Int.neg_tmod, Int.tmod_eq_emod_of_nonneg (show 0 ≤ y by omega)]
    split <;> omega
theorem rest_16 {x : Int} : (if Int.tmod x 16 < 0 then Int.tmod x 16 + 16 else Int.tmod x 16) = x % 16 := by
  by_cases h : 0 ≤ x
  · rw [Int.tmod_eq_emod_of_nonneg h, if_neg (by omega)]
  · obtain ⟨y, rfl⟩ : ∃ y, x = -y := ⟨-x, by omega⟩
    rw [Int.neg_tmod, Int.tmod_eq_emod_of_nonneg (show 0 ≤ y by omega)]
    split <;> omega
/-- V by the reference: the two are of one half, and the sum is of the other. -/
def vb (a m s : Int) : Bool := (decide (a ≥ 128) == decide (m ≥ 128)) && (decide (s % 256 ≥ 128) != decide (a ≥ 128))
def vs (a m s : Int) : Bool := (decide (a ≥ 128) != decide (m ≥ 128)) && (decide (s % 256 ≥ 128) != decide (a ≥ 128))
theorem vb_ovf {a m s : Int} (a0 : 0 ≤ a) (a1 : a < 256) (m0 : 0 ≤ m) (m1 : m < 256) : ind (vb a m s) = ovf a (s % 256) m (s % 256) := by
  unfold vb ovf ind
  by_cases h1 : a ≥ 128 <;> by_cases h2 : m ≥ 128 <;> by_cases h3 : s % 256 ≥ 128 <;> simp [h1, h2, h3] <;> omega
theorem vs_ovf {a m s : Int} (a0 : 0 ≤ a) (a1 : a < 256) (m0 : 0 ≤ m) (m1 : m < 256) : ind (vs a m s) = ovf a m a (s % 256) := by
  unfold vs ovf ind
  by_cases h1 : a ≥ 128 <;> by_cases h2 : m ≥ 128 <;> by_cases h3 : s % 256 ≥ 128 <;> simp [h1, h2, h3] <;> omega
theorem xor_bit (i : Nat) (hi : i < 8) {x y : Int} (x0 : 0 ≤ x) (x1 : x < 256) (y0 : 0 ≤ y) (y1 : y < 256) : bits .xor .u8 x y / 2 ^ i % 2 = (x / 2 ^ i + y / 2 ^ i) % 2 := by
  obtain ⟨X, rfl⟩ := Int.eq_ofNat_of_zero_le x0
  obtain ⟨Y, rfl⟩ := Int.eq_ofNat_of_zero_le y0
  rw [u8_xor_nat X Y (by omega) (by omega)]
  have e : ((X ^^^ Y) / 2 ^ i) % 2 = (X / 2 ^ i ^^^ Y / 2 ^ i) % 2 := by rw [Nat.xor_div_two_pow]
  have f : ∀ A B : Nat, (A ^^^ B) % 2 = (A + B) % 2 := fun A B => by
    have := @Nat.xor_mod_two_pow A B 1
    rw [show (2 : Nat) ^ 1 = 2 from rfl] at this
    rw [this]
    have h1 : A % 2 = 0 ∨ A % 2 = 1 := by omega
    have h2 : B % 2 = 0 ∨ B % 2 = 1 := by omega
    rcases h1 with h1 | h1 <;> rcases h2 with h2 | h2 <;> rw [h1, h2] <;> simp <;> omega
  have g : ((X ^^^ Y) / 2 ^ i) % 2 = (X / 2 ^ i + Y / 2 ^ i) % 2 := by rw [e, f]
  exact_mod_cast g
theorem or_nib {x y : Int} (x0 : 0 ≤ x) (x1 : x < 256) (hx : x % 16 = 0) (y0 : 0 ≤ y) (y1 : y < 16) : bits .or .u8 x y = x + y := by
  obtain ⟨X, rfl⟩ := Int.eq_ofNat_of_zero_le x0
  obtain ⟨Y, rfl⟩ := Int.eq_ofNat_of_zero_le y0
  rw [u8_or_nat X Y (by omega) (by omega), nat_join 4 X Y (by omega) (by omega)]; omega
theorem and_bd {x y : Int} (x0 : 0 ≤ x) (x1 : x < 256) (y0 : 0 ≤ y) (y1 : y < 256) : 0 ≤ bits .and .u8 x y ∧ bits .and .u8 x y < 256 := by
  obtain ⟨X, rfl⟩ := Int.eq_ofNat_of_zero_le x0
  obtain ⟨Y, rfl⟩ := Int.eq_ofNat_of_zero_le y0
  rw [u8_and_nat X Y (by omega) (by omega)]
  have : X &&& Y ≤ X := Nat.and_le_left
  omega
theorem xor_bd {x y : Int} (x0 : 0 ≤ x) (x1 : x < 256) (y0 : 0 ≤ y) (y1 : y < 256) : 0 ≤ bits .xor .u8 x y ∧ bits .xor .u8 x y < 256 := by
  obtain ⟨X, rfl⟩ := Int.eq_ofNat_of_zero_le x0
  obtain ⟨Y, rfl⟩ := Int.eq_ofNat_of_zero_le y0
  rw [u8_xor_nat X Y (by omega) (by omega)]
  have h : X ^^^ Y < 2 ^ 8 := Nat.xor_lt_two_pow (by omega) (by omega)
  omega
end Go.Proofs.Ytajffjhfecckbaa.AB
