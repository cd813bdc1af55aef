/- Plain laws of a byte's bits by division and remainder, for numbers from 0 to 255; no program is in sight. -/
import Derived.Laws.BitsAllLaws
import Derived.Laws.BitsLemmas
import Derived.WalkKit
namespace Go.Proofs.Ytajffjhfecckbaa.AB
open Go Go.RowKit

theorem by256 {P : Int → Prop} (h : ∀ n : Nat, n < 256 → P (n : Int)) {x : Int} (h0 : 0 ≤ x) (h1 : x < 256) : P x := by
  obtain ⟨n, rfl⟩ := Int.eq_ofNat_of_zero_le h0
  exact h n (by omega)

variable {p : Int}
theorem and1 (h0 : 0 ≤ p) (h1 : p < 256) : bits .and .u8 p 1 = p % 2 := by256 (P := fun p => bits .and .u8 p 1 = p % 2) (by decide +kernel) h0 h1
theorem and2 (h0 : 0 ≤ p) (h1 : p < 256) : bits .and .u8 p 2 = p / 2 % 2 * 2 := by256 (P := fun p => bits .and .u8 p 2 = p / 2 % 2 * 2) (by decide +kernel) h0 h1
theorem and8 (h0 : 0 ≤ p) (h1 : p < 256) : bits .and .u8 p 8 = p / 8 % 2 * 8 := by256 (P := fun p => bits .and .u8 p 8 = p / 8 % 2 * 8) (by decide +kernel) h0 h1
theorem and16 (h0 : 0 ≤ p) (h1 : p < 256) : bits .and .u8 p 16 = p / 16 % 2 * 16 := by256 (P := fun p => bits .and .u8 p 16 = p / 16 % 2 * 16) (by decide +kernel) h0 h1
theorem and64 (h0 : 0 ≤ p) (h1 : p < 256) : bits .and .u8 p 64 = p / 64 % 2 * 64 := by256 (P := fun p => bits .and .u8 p 64 = p / 64 % 2 * 64) (by decide +kernel) h0 h1
theorem and128 (h0 : 0 ≤ p) (h1 : p < 256) : bits .and .u8 p 128 = p / 128 * 128 := by256 (P := fun p => bits .and .u8 p 128 = p / 128 * 128) (by decide +kernel) h0 h1
theorem and15 (h0 : 0 ≤ p) (h1 : p < 256) : bits .and .u8 p 15 = p % 16 := by256 (P := fun p => bits .and .u8 p 15 = p % 16) (by decide +kernel) h0 h1
theorem and240 (h0 : 0 ≤ p) (h1 : p < 256) : bits .and .u8 p 240 = p / 16 * 16 := by256 (P := fun p => bits .and .u8 p 240 = p / 16 * 16) (by decide +kernel) h0 h1
theorem and131 (h0 : 0 ≤ p) (h1 : p < 256) : bits .and .u8 p 131 = p / 128 * 128 + p % 4 := by256 (P := fun p => bits .and .u8 p 131 = p / 128 * 128 + p % 4) (by decide +kernel) h0 h1
theorem or1 (h0 : 0 ≤ p) (h1 : p < 256) : bits .or .u8 p 1 = p / 2 * 2 + 1 := by256 (P := fun p => bits .or .u8 p 1 = p / 2 * 2 + 1) (by decide +kernel) h0 h1
theorem or2 (h0 : 0 ≤ p) (h1 : p < 256) : bits .or .u8 p 2 = p / 4 * 4 + 2 + p % 2 := by256 (P := fun p => bits .or .u8 p 2 = p / 4 * 4 + 2 + p % 2) (by decide +kernel) h0 h1
theorem or8 (h0 : 0 ≤ p) (h1 : p < 256) : bits .or .u8 p 8 = p / 16 * 16 + 8 + p % 8 := by256 (P := fun p => bits .or .u8 p 8 = p / 16 * 16 + 8 + p % 8) (by decide +kernel) h0 h1
theorem or64 (h0 : 0 ≤ p) (h1 : p < 256) : bits .or .u8 p 64 = p / 128 * 128 + 64 + p % 64 := by256 (P := fun p => bits .or .u8 p 64 = p / 128 * 128 + 64 + p % 64) (by decide +kernel) h0 h1
theorem or128 (h0 : 0 ≤ p) (h1 : p < 256) : bits .or .u8 p 128 = 128 + p % 128 := by256 (P := fun p => bits .or .u8 p 128 = 128 + p % 128) (by decide +kernel) h0 h1
theorem no1 (h0 : 0 ≤ p) (h1 : p < 256) : bits .andNot .u8 p 1 = p / 2 * 2 := by256 (P := fun p => bits .andNot .u8 p 1 = p / 2 * 2) (by decide +kernel) h0 h1
theorem no2 (h0 : 0 ≤ p) (h1 : p < 256) : bits .andNot .u8 p 2 = p / 4 * 4 + p % 2 := by256 (P := fun p => bits .andNot .u8 p 2 = p / 4 * 4 + p % 2) (by decide +kernel) h0 h1
theorem no9 (h0 : 0 ≤ p) (h1 : p < 256) : bits .andNot .u8 p 9 = p / 16 * 16 + p % 8 / 2 * 2 := by256 (P := fun p => bits .andNot .u8 p 9 = p / 16 * 16 + p % 8 / 2 * 2) (by decide +kernel) h0 h1
theorem no64 (h0 : 0 ≤ p) (h1 : p < 256) : bits .andNot .u8 p 64 = p / 128 * 128 + p % 64 := by256 (P := fun p => bits .andNot .u8 p 64 = p / 128 * 128 + p % 64) (by decide +kernel) h0 h1
theorem no128 (h0 : 0 ≤ p) (h1 : p < 256) : bits .andNot .u8 p 128 = p % 128 := by256 (P := fun p => bits .andNot .u8 p 128 = p % 128) (by decide +kernel) h0 h1
theorem no130 (h0 : 0 ≤ p) (h1 : p < 256) : bits .andNot .u8 p 130 = p % 128 / 4 * 4 + p % 2 := by256 (P := fun p => bits .andNot .u8 p 130 = p % 128 / 4 * 4 + p % 2) (by decide +kernel) h0 h1
theorem no131 (h0 : 0 ≤ p) (h1 : p < 256) : bits .andNot .u8 p 131 = p % 128 / 4 * 4 := by256 (P := fun p => bits .andNot .u8 p 131 = p % 128 / 4 * 4) (by decide +kernel) h0 h1

/-- 'Or' of what ends below bit 7 and of bit 7 alone. -/
theorem or_top {x y : Int} (h0 : 0 ≤ x) (h1 : x < 128) (h2 : y = 0 ∨ y = 128) : bits .or .u8 x y = x + y := by
  rcases h2 with rfl | rfl
  · exact by256 (P := fun x => bits .or .u8 x 0 = x + 0) (by decide +kernel) h0 (by omega)
  · rw [or128 h0 (by omega)]; omega
theorem or_low {x y : Int} (h0 : 0 ≤ x) (h1 : x < 256) (h3 : x % 2 = 0) (h2 : y = 0 ∨ y = 1) : bits .or .u8 x y = x + y := by
  rcases h2 with rfl | rfl
  · exact by256 (P := fun x => bits .or .u8 x 0 = x + 0) (by decide +kernel) h0 h1
  · rw [or1 h0 h1]; omega

theorem bit7 (A B : Nat) (ha : A < 256) (hb : B < 256) : (A ^^^ B) / 128 % 2 = if A / 128 = B / 128 then 0 else 1 := by
  have h : ((A ^^^ B) / 2 ^ 7) % 2 = (A / 2 ^ 7 ^^^ B / 2 ^ 7) % 2 := by rw [Nat.xor_div_two_pow]
  have e : (2 : Nat) ^ 7 = 128 := rfl
  rw [e] at h; rw [h]
  have h1 : A / 128 = 0 ∨ A / 128 = 1 := by omega
  have h2 : B / 128 = 0 ∨ B / 128 = 1 := by omega
  rcases h1 with h1 | h1 <;> rcases h2 with h2 | h2 <;> rw [h1, h2] <;> decide

/-- The test of V: '(x ^ y) & (z ^ w) & 0x80'. -/
theorem vtest {x y z w : Int} (x0 : 0 ≤ x) (x1 : x < 256) (y0 : 0 ≤ y) (y1 : y < 256) (z0 : 0 ≤ z) (z1 : z < 256) (w0 : 0 ≤ w) (w1 : w < 256) :
    bits .and .u8 (bits .and .u8 (bits .xor .u8 x y) (bits .xor .u8 z w)) 128 = if x / 128 ≠ y / 128 ∧ z / 128 ≠ w / 128 then 128 else 0 := by
  obtain ⟨X, rfl⟩ := Int.eq_ofNat_of_zero_le x0
  obtain ⟨Y, rfl⟩ := Int.eq_ofNat_of_zero_le y0
  obtain ⟨Z, rfl⟩ := Int.eq_ofNat_of_zero_le z0
  obtain ⟨W, rfl⟩ := Int.eq_ofNat_of_zero_le w0
  have hX : X < 256 := by omega
  have hY : Y < 256 := by omega
  have hZ : Z < 256 := by omega
  have hW : W < 256 := by omega
  have h1 : X ^^^ Y < 256 := Nat.xor_lt_two_pow (n := 8) hX hY
  have h2 : Z ^^^ W < 256 := Nat.xor_lt_two_pow (n := 8) hZ hW
  have h3 : (X ^^^ Y) &&& (Z ^^^ W) < 256 := Nat.lt_of_le_of_lt Nat.and_le_left h1
  rw [u8_xor_nat X Y hX hY, u8_xor_nat Z W hZ hW, u8_and_nat _ _ h1 h2]
  have h4 := u8_and_nat ((X ^^^ Y) &&& (Z ^^^ W)) 128 h3 (by decide)
  rw [show ((128 : Nat) : Int) = 128 from rfl] at h4
  rw [h4]
  have e7 : (128 : Nat) = 2 ^ 7 := rfl
  have h5 : ((X ^^^ Y) &&& (Z ^^^ W)) &&& 128 = (((X ^^^ Y) &&& (Z ^^^ W)) / 128 % 2) * 128 := by
    rw [e7]; exact nat_bit 7 _
  rw [h5]
  have h6 : ((X ^^^ Y) &&& (Z ^^^ W)) / 128 = ((X ^^^ Y) / 128) &&& ((Z ^^^ W) / 128) := by
    rw [e7]; exact Nat.and_div_two_pow
  rw [h6]
  have b1 := bit7 X Y hX hY
  have b2 := bit7 Z W hZ hW
  have c1 : (X ^^^ Y) / 128 = 0 ∨ (X ^^^ Y) / 128 = 1 := by omega
  have c2 : (Z ^^^ W) / 128 = 0 ∨ (Z ^^^ W) / 128 = 1 := by omega
  rcases c1 with c1 | c1 <;> rcases c2 with c2 | c2 <;> rw [c1] at b1 ⊢ <;> rw [c2] at b2 ⊢ <;> simp at b1 b2 ⊢ <;> omega

theorem and15i {x : Int} (h0 : -32 ≤ x) (h1 : x < 64) : bits .and .i64 x 15 = x % 16 := by
  have h : ∀ n : Nat, n < 96 → bits .and .i64 ((n : Int) - 32) 15 = ((n : Int) - 32) % 16 := by decide +kernel
  obtain ⟨n, hn⟩ := Int.eq_ofNat_of_zero_le (show 0 ≤ x + 32 by omega)
  have e : x = (n : Int) - 32 := by omega
  rw [e]; exact h n (by omega)
theorem and255i {x : Int} (h0 : -512 ≤ x) (h1 : x < 512) : bits .and .i64 x 255 = x % 256 := by
  have h : ∀ n : Nat, n < 1024 → bits .and .i64 ((n : Int) - 512) 255 = ((n : Int) - 512) % 256 := by decide +kernel
  obtain ⟨n, hn⟩ := Int.eq_ofNat_of_zero_le (show 0 ≤ x + 512 by omega)
  have e : x = (n : Int) - 512 := by omega
  rw [e]; exact h n (by omega)

theorem w64 {x : Int} (h0 : -9223372036854775808 ≤ x) (h1 : x ≤ 9223372036854775807) : wrap64 x = x := by unfold wrap64; omega
theorem wu64 {x : Int} (h0 : 0 ≤ x) (h1 : x < 18446744073709551616) : IntKind.u64.wrap x = x := by rw [IntKind.wrap_u64]; omega
theorem tdiv_pos {x y : Int} (h0 : 0 ≤ x) : Int.tdiv x y = x / y := Int.tdiv_eq_ediv_of_nonneg h0
theorem tmod_pos {x y : Int} (h0 : 0 ≤ x) : Int.tmod x y = x % y := Int.tmod_eq_emod_of_nonneg h0
theorem of_u8 {n : Int} (h : (Lit.int .u8 n).wf = true) : 0 ≤ n ∧ n < 256 := by
  simp [Lit.wf, IntKind.min, IntKind.max, IntKind.signed, IntKind.bits] at h
  omega
theorem of_u64 {n : Int} (h : (Lit.int .u64 n).wf = true) : 0 ≤ n ∧ n < 18446744073709551616 := by
  simp [Lit.wf, IntKind.min, IntKind.max, IntKind.signed, IntKind.bits] at h
  omega
theorem vt (c : Prop) [Decidable c] : ((if c then (128 : Int) else 0) != 0) = decide c := by by_cases h : c <;> simp [h]

/-! ### what the sums come to -/
/-- P with new N, V, Z, C. -/
def mkP (p n v z c : Int) : Int := n * 128 + v * 64 + p % 64 / 4 * 4 + z * 2 + c
def ovf (x y z w : Int) : Int := if x / 128 ≠ y / 128 ∧ z / 128 ≠ w / 128 then 1 else 0
def lowA (a m p : Int) : Int := if a % 16 + m % 16 + p % 2 > 9 then (a % 16 + m % 16 + p % 2 + 6) % 16 + 16 else a % 16 + m % 16 + p % 2
def decA (a m p : Int) : Int := a / 16 * 16 + m / 16 * 16 + lowA a m p
def sum8 (a m p : Int) : Int := if p / 8 % 2 = 0 then (a + m + p % 2) % 256 else decA a m p % 256
def adcR (a m p : Int) : Int := if p / 8 % 2 = 0 then (a + m + p % 2) % 256 else if decA a m p ≥ 160 then (decA a m p + 96) % 256 else decA a m p % 256
def adcC (a m p : Int) : Int := if p / 8 % 2 = 0 then (a + m + p % 2) / 256 else if decA a m p ≥ 160 then 1 else 0
def adcP (a m p : Int) : Int := mkP p (sum8 a m p / 128) (ovf a (sum8 a m p) m (sum8 a m p)) (if (a + m + p % 2) % 256 = 0 then 1 else 0) (adcC a m p)
def dif (a m p : Int) : Int := a - m - (1 - p % 2)
def lowS (a m p : Int) : Int := if a % 16 - m % 16 - (1 - p % 2) < 0 then (a % 16 - m % 16 - (1 - p % 2) - 6) % 16 - 16 else a % 16 - m % 16 - (1 - p % 2)
def decB (a m p : Int) : Int := a / 16 * 16 - m / 16 * 16 + lowS a m p
def sbcR (a m p : Int) : Int := if p / 8 % 2 = 0 then dif a m p % 256 else if decB a m p < 0 then (decB a m p - 96) % 256 else decB a m p % 256
def sbcP (a m p : Int) : Int := mkP p (dif a m p % 256 / 128) (ovf a m a (dif a m p % 256)) (if dif a m p % 256 = 0 then 1 else 0) (if dif a m p ≥ 0 then 1 else 0)
theorem ovf_01 (x y z w : Int) : 0 ≤ ovf x y z w ∧ ovf x y z w ≤ 1 := by unfold ovf; split <;> omega
theorem mkP_bd {p n v z c : Int} (_p0 : 0 ≤ p) (_p1 : p < 256) (n0 : 0 ≤ n) (n1 : n ≤ 1) (v0 : 0 ≤ v) (v1 : v ≤ 1) (z0 : 0 ≤ z) (z1 : z ≤ 1) (c0 : 0 ≤ c) (c1 : c ≤ 1) :
    0 ≤ mkP p n v z c ∧ mkP p n v z c < 256 := by unfold mkP; omega
theorem chainA {p s : Int} (_s0 : 0 ≤ s) (_s1 : s < 256) (x v z c : Prop) [Decidable x] [Decidable v] [Decidable z] [Decidable c] :
    (((s / 128 * 128 + p % 128 / 4 * 4 + (if x then 2 else 0) + p % 2) / 128 * 128 + (if v then 64 else 0) + (s / 128 * 128 + p % 128 / 4 * 4 + (if x then 2 else 0) + p % 2) % 64) / 4 * 4 + (if z then 2 else 0) +
      ((s / 128 * 128 + p % 128 / 4 * 4 + (if x then 2 else 0) + p % 2) / 128 * 128 + (if v then 64 else 0) + (s / 128 * 128 + p % 128 / 4 * 4 + (if x then 2 else 0) + p % 2) % 64) % 2) / 2 * 2 + (if c then 1 else 0) =
      mkP p (s / 128) (if v then 1 else 0) (if z then 1 else 0) (if c then 1 else 0) := by
  unfold mkP
  by_cases x <;> by_cases v <;> by_cases z <;> simp only [*, if_true, if_false] <;> omega
theorem lowA_bd {a m p : Int} : 0 ≤ lowA a m p ∧ lowA a m p ≤ 31 := by unfold lowA; split <;> omega
theorem lowS_bd {a m p : Int} : -16 ≤ lowS a m p ∧ lowS a m p ≤ 15 := by unfold lowS; split <;> omega
theorem mkP_c {p n v z c : Int} : mkP p n v z c % 2 = c % 2 := by unfold mkP; omega
theorem mkP_d {p n v z c : Int} (z0 : 0 ≤ z) (z1 : z ≤ 1) (c0 : 0 ≤ c) (c1 : c ≤ 1) : mkP p n v z c / 8 % 2 = p / 8 % 2 := by unfold mkP; omega
theorem mkP_z {p n v z c : Int} (z0 : 0 ≤ z) (z1 : z ≤ 1) (c0 : 0 ≤ c) (c1 : c ≤ 1) : mkP p n v z c / 2 % 2 = z := by
  have e : mkP p n v z c = 2 * (64 * n + 32 * v + p % 64 / 4 * 2 + z) + c := by unfold mkP; omega
  rw [e]; generalize p % 64 / 4 = w; omega
theorem mkP_n {p n v z c : Int} (_p0 : 0 ≤ p) (v0 : 0 ≤ v) (v1 : v ≤ 1) (z0 : 0 ≤ z) (z1 : z ≤ 1) (c0 : 0 ≤ c) (c1 : c ≤ 1) : mkP p n v z c / 128 = n := by
  have h : 0 ≤ p % 64 / 4 ∧ p % 64 / 4 ≤ 15 := by omega
  unfold mkP; generalize p % 64 / 4 = w at *; omega
theorem mkP_v {p n v z c : Int} (_p0 : 0 ≤ p) (v0 : 0 ≤ v) (v1 : v ≤ 1) (z0 : 0 ≤ z) (z1 : z ≤ 1) (c0 : 0 ≤ c) (c1 : c ≤ 1) : mkP p n v z c / 64 % 2 = v := by
  have h : 0 ≤ p % 64 / 4 ∧ p % 64 / 4 ≤ 15 := by omega
  unfold mkP; generalize p % 64 / 4 = w at *
  rw [show n * 128 + v * 64 + w * 4 + z * 2 + c = 64 * (2 * n + v) + (w * 4 + z * 2 + c) by omega]; omega
theorem it01 (c : Prop) [Decidable c] : 0 ≤ (if c then (1 : Int) else 0) ∧ (if c then (1 : Int) else 0) ≤ 1 := by split <;> omega
end Go.Proofs.Ytajffjhfecckbaa.AB
