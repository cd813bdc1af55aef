/- For all numbers of 64 bits and all flags the law AluLongTakes answers true: eight subtractions with the borrow handed on are the difference, its C, V and N, and in decimal the difference of 16 digits; no condition. -/
import Derived.Test.YtajffjhfecckbaaPAluLongTakesx1
import Derived.Test.YtajffjhfecckbaaAluBits
import Derived.Test.YtajffjhfecckbaaAluDec
namespace Go.Proofs.Ytajffjhfecckbaa.Pure
open Go.RowKit Go.Proofs.Ytajffjhfecckbaa.PAluLongTakes Go.Proofs.YtajffjhfecckbaaW.PrintWords Go.Proofs.YtajffjhfecckbaaW.PrintLast Go.Proofs.YtajffjhfecckbaaW.PrintMore
open Go Go.Proofs.Ytajffjhfecckbaa.AB

theorem put1 {p : Int} (h0 : 0 ≤ p) (h1 : p < 256) (b : Bool) : alu_put.f p 1 b = some (p / 2 * 2 + if b = true then 1 else 0) := by
  cases b <;> simp [alu_put.f, no1 h0 h1, or1 h0 h1]
theorem put2 {p : Int} (h0 : 0 ≤ p) (h1 : p < 256) (b : Bool) : alu_put.f p 2 b = some (p / 4 * 4 + (if b = true then 2 else 0) + p % 2) := by
  cases b <;> simp [alu_put.f, no2 h0 h1, or2 h0 h1]
theorem put64 {p : Int} (h0 : 0 ≤ p) (h1 : p < 256) (b : Bool) : alu_put.f p 64 b = some (p / 128 * 128 + (if b = true then 64 else 0) + p % 64) := by
  cases b <;> simp [alu_put.f, no64 h0 h1, or64 h0 h1]
theorem nz {r p : Int} (r0 : 0 ≤ r) (r1 : r < 256) (h0 : 0 ≤ p) (h1 : p < 256) :
    alu_Nz.f r p = some (r / 128 * 128 + p % 128 / 4 * 4 + (if r = 0 then 2 else 0) + p % 2) := by
  unfold alu_Nz.f
  rw [no130 h0 h1, and128 r0 r1]
  by_cases h : r = 0
  · rw [if_pos h, if_pos h, or2 (by omega) (by omega), or_top (by omega) (by omega) (by omega)]; congr 1; omega
  · rw [if_neg h, if_neg h, or_top (by omega) (by omega) (by omega)]; congr 1; omega
theorem carry {p : Int} (h0 : 0 ≤ p) (h1 : p < 256) : alu_carry.f p = some (p % 2) := by
  unfold alu_carry.f; rw [and1 h0 h1, w64 (by omega) (by omega)]
theorem sbc {a m p : Int} (a0 : 0 ≤ a) (a1 : a < 256) (m0 : 0 ≤ m) (m1 : m < 256) (p0 : 0 ≤ p) (p1 : p < 256) :
    alu_Sbc.f a m p = some (sbcR a m p, sbcP a m p) := by
  have L := @lowS_bd a m p
  unfold alu_Sbc.f
  rw [carry p0 p1, Option.bind_some]
  rw [w64 (x := a) (by omega) (by omega), w64 (x := m) (by omega) (by omega), w64 (x := a - m) (by omega) (by omega), w64 (x := 1 - p % 2) (by omega) (by omega), w64 (x := a - m - (1 - p % 2)) (by omega) (by omega)]
  rw [show a - m - (1 - p % 2) = dif a m p from rfl]
  have D : -256 ≤ dif a m p ∧ dif a m p ≤ 255 := by unfold dif; omega
  rw [put1 p0 p1, Option.bind_some, vtest (by omega) (by omega) (by omega) (by omega) (by omega) (by omega) (by omega) (by omega), vt, put64 (by split <;> omega) (by split <;> omega), Option.bind_some,
    nz (by omega) (by omega) (by split <;> split <;> omega) (by split <;> split <;> omega), Option.bind_some]
  simp only [decide_eq_true_eq]
  have hP : dif a m p % 256 / 128 * 128 + ((p / 2 * 2 + if dif a m p ≥ 0 then 1 else 0) / 128 * 128 + (if a / 128 ≠ m / 128 ∧ a / 128 ≠ dif a m p % 256 / 128 then 64 else 0) + (p / 2 * 2 + if dif a m p ≥ 0 then 1 else 0) % 64) % 128 / 4 * 4 + (if dif a m p % 256 = 0 then 2 else 0) + ((p / 2 * 2 + if dif a m p ≥ 0 then 1 else 0) / 128 * 128 + (if a / 128 ≠ m / 128 ∧ a / 128 ≠ dif a m p % 256 / 128 then 64 else 0) + (p / 2 * 2 + if dif a m p ≥ 0 then 1 else 0) % 64) % 2 = sbcP a m p := by
    simp only [sbcP, mkP, ovf]
    split <;> split <;> split <;> omega
  rw [hP, and8 p0 p1]
  by_cases hd : p / 8 % 2 = 0
  · rw [if_pos (by omega)]; simp only [sbcR, if_pos hd]
  · rw [if_neg (by omega), and15 a0 a1, and15 m0 m1, and240 a0 a1, and240 m0 m1]
    rw [w64 (x := a % 16) (by omega) (by omega), w64 (x := m % 16) (by omega) (by omega), w64 (x := a % 16 - m % 16) (by omega) (by omega), w64 (x := a % 16 - m % 16 - (1 - p % 2)) (by omega) (by omega)]
    rw [w64 (x := a % 16 - m % 16 - (1 - p % 2) - 6) (by omega) (by omega), and15i (by omega) (by omega), w64 (x := (a % 16 - m % 16 - (1 - p % 2) - 6) % 16 - 16) (by omega) (by omega)]
    rw [w64 (x := a / 16 * 16) (by omega) (by omega), w64 (x := m / 16 * 16) (by omega) (by omega), w64 (x := a / 16 * 16 - m / 16 * 16) (by omega) (by omega)]
    have E : decB a m p = a / 16 * 16 - m / 16 * 16 + lowS a m p := rfl
    simp only [sbcR, if_neg hd]
    by_cases h1 : a % 16 - m % 16 - (1 - p % 2) < 0
    · have e : lowS a m p = (a % 16 - m % 16 - (1 - p % 2) - 6) % 16 - 16 := by unfold lowS; rw [if_pos h1]
      rw [if_pos h1, ← e, ← E, w64 (x := decB a m p) (by omega) (by omega), w64 (x := decB a m p - 96) (by omega) (by omega)]
      split <;> rfl
    · have e : lowS a m p = a % 16 - m % 16 - (1 - p % 2) := by unfold lowS; rw [if_neg h1]
      rw [if_neg h1, ← e, ← E, w64 (x := decB a m p) (by omega) (by omega), w64 (x := decB a m p - 96) (by omega) (by omega)]
      split <;> rfl
theorem sbc_bd {a m p : Int} (p0 : 0 ≤ p) (p1 : p < 256) :
    (0 ≤ sbcR a m p ∧ sbcR a m p < 256) ∧ (0 ≤ sbcP a m p ∧ sbcP a m p < 256) := by
  refine ⟨by unfold sbcR; split <;> (try split) <;> omega, mkP_bd p0 p1 ?_ ?_ (ovf_01 _ _ _ _).1 (ovf_01 _ _ _ _).2 ?_ ?_ ?_ ?_⟩
  · omega
  · omega
  · split <;> omega
  · split <;> omega
  · split <;> omega
  · split <;> omega
theorem with_ {p : Int} (h0 : 0 ≤ p) (h1 : p < 256) (c d : Bool) : tandemlaw3_with.f p c d = some (p / 16 * 16 + p % 8 / 2 * 2 + (if c = true then 1 else 0) + if d = true then 8 else 0) := by
  unfold tandemlaw3_with.f
  rw [no9 h0 h1]
  cases c <;> cases d <;> simp only [if_true, if_false, Bool.false_eq_true]
  · congr 1; omega
  · rw [or8 (by omega) (by omega)]; congr 1; omega
  · rw [or1 (by omega) (by omega)]; congr 1; omega
  · rw [or1 (by omega) (by omega), or8 (by omega) (by omega)]; congr 1; omega
theorem has1 {p : Int} (h0 : 0 ≤ p) (h1 : p < 256) : tandemlaw3_has.f p 1 = some (decide (p % 2 = 1)) := by
  unfold tandemlaw3_has.f; rw [and1 h0 h1]; congr 1
  by_cases h : p % 2 = 1
  · rw [h]; rfl
  · rw [show p % 2 = 0 by omega]; rfl
theorem has64 {p : Int} (h0 : 0 ≤ p) (h1 : p < 256) : tandemlaw3_has.f p 64 = some (decide (p / 64 % 2 = 1)) := by
  unfold tandemlaw3_has.f; rw [and64 h0 h1]; congr 1
  by_cases h : p / 64 % 2 = 1
  · rw [h]; rfl
  · rw [show p / 64 % 2 = 0 by omega]; rfl
theorem has128 {p : Int} (h0 : 0 ≤ p) (h1 : p < 256) : tandemlaw3_has.f p 128 = some (decide (p / 128 = 1)) := by
  unfold tandemlaw3_has.f; rw [and128 h0 h1]; congr 1
  by_cases h : p / 128 = 1
  · rw [h]; rfl
  · rw [show p / 128 = 0 by omega]; rfl
theorem digits {n : Int} (h0 : 0 ≤ n) (h1 : n < 100) : tandemlaw3_digits.f n = some (16 * (n / 10) + n % 10) := by
  unfold tandemlaw3_digits.f
  rw [tdiv_pos h0, tmod_pos h0, w64 (x := n / 10) (by omega) (by omega), w64 (x := 16 * (n / 10)) (by omega) (by omega), w64 (x := 16 * (n / 10) + n % 10) (by omega) (by omega)]
  congr 1; omega
theorem or_join {s v : Int} (e : Nat) (s0 : 0 ≤ s) (s1 : s < 2 ^ e) (se : s < 18446744073709551616) (v0 : 0 ≤ v) (v1 : v < 18446744073709551616) (hv : v % 2 ^ e = 0) : bits .or .u64 s v = s + v := by
  obtain ⟨S, rfl⟩ := Int.eq_ofNat_of_zero_le s0
  obtain ⟨V, rfl⟩ := Int.eq_ofNat_of_zero_le v0
  rw [u64_or_nat S V (by omega) (by omega), Nat.or_comm, nat_join e V S (by exact_mod_cast hv) (by exact_mod_cast s1)]
  omega
theorem shr_lit (x i : Int) (n : Nat) (B : Int) (h : min i.toNat 64 = n) (hB : (2 : Int) ^ n = B) : shr .u64 x i = x / B := by
  unfold shr; rw [show IntKind.u64.bits = 64 from rfl, h, hB]
theorem shl_lit (r i : Int) (n : Nat) (B : Int) (h : min i.toNat 64 = n) (hB : (2 : Int) ^ n = B) (h0 : 0 ≤ r * B) (h1 : r * B < 18446744073709551616) : shl .u64 r i = r * B := by
  unfold shl; rw [show IntKind.u64.bits = 64 from rfl, h, hB, wu64 h0 h1]
theorem shl_at (r : Int) (r0 : 0 ≤ r) (r1 : r < 256) : shl .u64 r 0 = r * 1 ∧ shl .u64 r 8 = r * 256 ∧ shl .u64 r 16 = r * 65536 ∧ shl .u64 r 24 = r * 16777216 ∧ shl .u64 r 32 = r * 4294967296 ∧ shl .u64 r 40 = r * 1099511627776 ∧ shl .u64 r 48 = r * 281474976710656 ∧ shl .u64 r 56 = r * 72057594037927936 :=
  ⟨shl_lit r 0 0 _ (by decide) (by decide +kernel) (by omega) (by omega), shl_lit r 8 8 _ (by decide) (by decide +kernel) (by omega) (by omega), shl_lit r 16 16 _ (by decide) (by decide +kernel) (by omega) (by omega), shl_lit r 24 24 _ (by decide) (by decide +kernel) (by omega) (by omega), shl_lit r 32 32 _ (by decide) (by decide +kernel) (by omega) (by omega), shl_lit r 40 40 _ (by decide) (by decide +kernel) (by omega) (by omega), shl_lit r 48 48 _ (by decide) (by decide +kernel) (by omega) (by omega), shl_lit r 56 56 _ (by decide) (by decide +kernel) (by omega) (by omega)⟩
theorem shr_at (x : Int) : shr .u64 x 0 = x / 1 ∧ shr .u64 x 8 = x / 256 ∧ shr .u64 x 16 = x / 65536 ∧ shr .u64 x 24 = x / 16777216 ∧ shr .u64 x 32 = x / 4294967296 ∧ shr .u64 x 40 = x / 1099511627776 ∧ shr .u64 x 48 = x / 281474976710656 ∧ shr .u64 x 56 = x / 72057594037927936 :=
  ⟨shr_lit x 0 0 _ (by decide) (by decide +kernel), shr_lit x 8 8 _ (by decide) (by decide +kernel), shr_lit x 16 16 _ (by decide) (by decide +kernel), shr_lit x 24 24 _ (by decide) (by decide +kernel), shr_lit x 32 32 _ (by decide) (by decide +kernel), shr_lit x 40 40 _ (by decide) (by decide +kernel), shr_lit x 48 48 _ (by decide) (by decide +kernel), shr_lit x 56 56 _ (by decide) (by decide +kernel)⟩
theorem orr (e : Nat) (he : e ≤ 56) {s r : Int} (s0 : 0 ≤ s) (s1 : s < 2 ^ e) (r0 : 0 ≤ r) (r1 : r < 256) : bits .or .u64 s (r * 2 ^ e) = s + r * 2 ^ e := by
  have hp : (2 : Int) ^ e ≤ 2 ^ 56 := by exact_mod_cast Nat.pow_le_pow_right (by decide) he
  have hp0 : (0 : Int) < 2 ^ e := Int.pow_pos (by decide)
  have e56 : (2 : Int) ^ 56 = 72057594037927936 := by decide +kernel
  have h4 : 0 ≤ r * 2 ^ e := Int.mul_nonneg r0 (by omega)
  have h5 : r * 2 ^ e ≤ 255 * 2 ^ e := Int.mul_le_mul_of_nonneg_right (by omega) (by omega)
  exact or_join e s0 s1 (by omega) h4 (by omega) (Int.mul_emod_left _ _)
theorem emod_up (x : Int) {B C : Int} (hB : 0 < B) (hC : C = B * 256) : x % C = x % B + B * (x / B % 256) := by
  have e1 : B * (x / B) + x % B = x := Int.mul_ediv_add_emod x B
  have e2 : 256 * (x / B / 256) + x / B % 256 = x / B := Int.mul_ediv_add_emod (x / B) 256
  have h1 := Int.emod_nonneg x (show B ≠ 0 by omega)
  have h2 := Int.emod_lt_of_pos x hB
  have h3 : 0 ≤ x / B % 256 ∧ x / B % 256 ≤ 255 := by clear e1 e2; omega
  have h4 : 0 ≤ B * (x / B % 256) := Int.mul_nonneg (by omega) h3.1
  have h5 : B * (x / B % 256) ≤ B * 255 := Int.mul_le_mul_of_nonneg_left h3.2 (by omega)
  have e3 : x = x % B + B * (x / B % 256) + C * (x / B / 256) := by
    rw [hC, Int.mul_assoc, Int.add_assoc, ← Int.mul_add, Int.add_comm (x / B % 256), e2, Int.add_comm, e1]
  have e4 := congrArg (fun z => z % C) e3
  simp only [Int.add_mul_emod_self_left] at e4
  rw [e4]; exact Int.emod_eq_of_lt (by omega) (by omega)
/-- A byte more: what has been summed, and the carry. -/
theorem more {x y s r c c' B C : Int} (hB : 0 < B) (hC : C = B * 256) (h : s + B * c = x % B + y % B) (s0 : 0 ≤ s) (s1 : s < B) (r0 : 0 ≤ r) (r1 : r < 256) (f : r + 256 * c' = x / B % 256 + y / B % 256 + c) :
    s + r * B + C * c' = x % C + y % C ∧ 0 ≤ s + r * B ∧ s + r * B < C := by
  rw [emod_up x hB hC, emod_up y hB hC]
  have h4 : 0 ≤ r * B := Int.mul_nonneg r0 (by omega)
  have h5 : r * B ≤ 255 * B := Int.mul_le_mul_of_nonneg_right (by omega) (by omega)
  have e := congrArg (fun z => B * z) f
  simp only [Int.mul_add] at e
  have e1 : C * c' = B * (256 * c') := by rw [hC, Int.mul_assoc]
  have e2 : r * B = B * r := Int.mul_comm r B
  refine ⟨by omega, by omega, by omega⟩
theorem top_s {s t r : Int} (h : s = t + r * 72057594037927936) (t0 : 0 ≤ t) (t1 : t < 72057594037927936) : r / 128 = s / 9223372036854775808 := by omega
theorem top_x {x : Int} (x0 : 0 ≤ x) (x1 : x < 18446744073709551616) : x / 72057594037927936 % 256 / 128 = x / 9223372036854775808 := by
  have e : x / 72057594037927936 < 256 := by omega
  have e0 : 0 ≤ x / 72057594037927936 := by omega
  rw [show x / 72057594037927936 % 256 = x / 72057594037927936 by omega]; omega
theorem small_x {x : Int} (x0 : 0 ≤ x) (x1 : x < 18446744073709551616) : x % 18446744073709551616 = x := by omega
/-- A byte more of a difference. -/
theorem less {x y s r c c' B C : Int} (hB : 0 < B) (hC : C = B * 256) (h : s = x % B - y % B + B * (1 - c)) (s0 : 0 ≤ s) (s1 : s < B) (r0 : 0 ≤ r) (r1 : r < 256) (f : r = x / B % 256 - y / B % 256 - (1 - c) + 256 * (1 - c')) :
    s + r * B = x % C - y % C + C * (1 - c') ∧ 0 ≤ s + r * B ∧ s + r * B < C := by
  rw [emod_up x hB hC, emod_up y hB hC]
  have h4 : 0 ≤ r * B := Int.mul_nonneg r0 (by omega)
  have h5 : r * B ≤ 255 * B := Int.mul_le_mul_of_nonneg_right (by omega) (by omega)
  have e := congrArg (fun z => B * z) f
  simp only [Int.mul_add, Int.mul_sub] at e
  have e1 : C * (1 - c') = B * (256 * 1) - B * (256 * c') := by rw [hC, Int.mul_assoc, Int.mul_sub, Int.mul_sub]
  have e2 : r * B = B * r := Int.mul_comm r B
  have e3 : B * (1 - c) = B * 1 - B * c := Int.mul_sub _ _ _
  refine ⟨by omega, by omega, by omega⟩
theorem sbc_bin {a m q : Int} (a0 : 0 ≤ a) (a1 : a < 256) (m0 : 0 ≤ m) (m1 : m < 256) (q0 : 0 ≤ q) (qd : q / 8 % 2 = 0) :
    sbcR a m q = a - m - (1 - q % 2) + 256 * (1 - sbcP a m q % 2) ∧ sbcP a m q / 64 % 2 = ovf a m a (sbcR a m q) ∧ sbcP a m q / 128 = sbcR a m q / 128 ∧ sbcP a m q / 8 % 2 = 0 := by
  have eR : sbcR a m q = dif a m q % 256 := by unfold sbcR; rw [if_pos qd]
  have hv := ovf_01 a m a (sbcR a m q)
  unfold sbcP
  rw [← eR]
  refine ⟨?_, mkP_v q0 hv.1 hv.2 (it01 _).1 (it01 _).2 (it01 _).1 (it01 _).2, mkP_n q0 hv.1 hv.2 (it01 _).1 (it01 _).2 (it01 _).1 (it01 _).2, ?_⟩
  · rw [mkP_c, eR]; unfold dif; clear hv eR; split <;> omega
  · rw [mkP_d (it01 _).1 (it01 _).2 (it01 _).1 (it01 _).2]; exact qd

theorem roundA (k : Nat) {x y p q s i j B : Int} (hj : j = i + 8) (i0 : 0 ≤ i) (i1 : i < 64) (hx : shr .u64 x i = x / B) (hy : shr .u64 y i = y / B)
    (hs : ∀ r, 0 ≤ r → r < 256 → bits .or .u64 s (shl .u64 r i) = s + r * B) (q0 : 0 ≤ q) (q1 : q < 256) (qd : q / 8 % 2 = 0) :
    ∃ Q R, tandemlaw3_AluLongTakes.l0 (k + 2) x y p q s i = tandemlaw3_AluLongTakes.l0 (k + 1) x y p Q (s + R * B) j ∧ 0 ≤ Q ∧ Q < 256 ∧ Q / 8 % 2 = 0 ∧ 0 ≤ R ∧ R < 256 ∧
      R = x / B % 256 - y / B % 256 - (1 - q % 2) + 256 * (1 - Q % 2) ∧ Q / 64 % 2 = ovf (x / B % 256) (y / B % 256) (x / B % 256) R ∧ Q / 128 = R / 128 := by
  have ha : 0 ≤ x / B % 256 ∧ x / B % 256 < 256 := by omega
  have hm : 0 ≤ y / B % 256 ∧ y / B % 256 < 256 := by omega
  have E := sbc_bd (a := x / B % 256) (m := y / B % 256) q0 q1
  obtain ⟨h1, h2, h3, h4⟩ := sbc_bin ha.1 ha.2 hm.1 hm.2 q0 qd
  refine ⟨sbcP (x / B % 256) (y / B % 256) q, sbcR (x / B % 256) (y / B % 256) q, ?_, E.2.1, E.2.2, h4, E.1.1, E.1.2, h1, h2, h3⟩
  simp only [tandemlaw3_AluLongTakes.l0]
  rw [if_pos i1, wu64 i0 (by omega), if_pos i0, hx, hy, sbc ha.1 ha.2 hm.1 hm.2 q0 q1, Option.bind_some]
  simp only []
  rw [wu64 E.1.1 (by omega), hs _ E.1.1 E.1.2, w64 (by omega) (by omega), hj]

theorem mod100 {x y c z w : Int} (h : z = x - y - (1 - c) + 100 * w) : (x % 100 - y % 100 - 1 + c + 100) % 100 = z % 100 := by omega
theorem div100 {x y c z w : Int} (c0 : 0 ≤ c) (c1 : c ≤ 1) (h : z = x - y - (1 - c) + 100 * w) : z / 100 = x / 100 - y / 100 - (1 - (if x % 100 - y % 100 - 1 + c ≥ 0 then 1 else 0)) + w := by split <;> omega
set_option maxHeartbeats 1000000 in
theorem decimal (n : Nat) : ∀ (k : Nat) (x y q z j b : Int) (less : Bool), 0 ≤ x → x < 100 ^ n → 0 ≤ y → y < 100 ^ n → (100 : Int) ^ n ≤ 10000000000000000 → 0 ≤ q → q < 256 → q / 8 % 2 = 1 → z = x - y - (1 - q % 2) + 100 ^ n * b → 0 ≤ z → z < 100 ^ n → b = (if less = true then 1 else 0) → j = 8 - n → n ≤ 8 → n + 1 < k →
    tandemlaw3_AluLongTakes.l1 k x y q z less j = some true := by
  induction n with
  | zero =>
    intro k x y q z j b less x0 x1 y0 y1 _ q0 q1 qd hz z0 z1 hb hj _ hk
    obtain ⟨k, rfl⟩ : ∃ m, k = m + 1 := ⟨k - 1, by omega⟩
    simp only [tandemlaw3_AluLongTakes.l1]
    rw [if_neg (by omega), has1 q0 q1, Option.bind_some]
    rw [Int.pow_zero] at x1 y1 z1 hz
    have hq : 1 - q % 2 = b := by omega
    cases less with
    | true => rw [if_pos rfl] at hb; rw [show q % 2 = 0 by omega]; rfl
    | false => rw [if_neg (by decide)] at hb; rw [show q % 2 = 1 by omega]; rfl
  | succ n ih =>
    intro k x y q z j b less x0 x1 y0 y1 hT q0 q1 qd hz z0 z1 hb hj hn hk
    obtain ⟨k, rfl⟩ : ∃ m, k = m + 2 := ⟨k - 2, by omega⟩
    have eT : (100 : Int) ^ (n + 1) = 100 ^ n * 100 := rfl
    rw [eT] at x1 y1 hT hz z1
    have tpos : (0 : Int) < 100 ^ n := Int.pow_pos (by decide)
    generalize (100 : Int) ^ n = T at *
    simp only [tandemlaw3_AluLongTakes.l1]
    have hw : T * 100 * b = 100 * (T * b) := by rw [Int.mul_comm T 100, Int.mul_assoc]
    rw [hw] at hz
    have hx : 0 ≤ x % 100 ∧ x % 100 < 100 := by clear ih; omega
    have hy : 0 ≤ y % 100 ∧ y % 100 < 100 := by clear ih; omega
    have hzz : 0 ≤ z % 100 ∧ z % 100 < 100 := by clear ih; omega
    have hc : 0 ≤ q % 2 ∧ q % 2 ≤ 1 := by clear ih; omega
    have M := mod100 hz
    have V := div100 hc.1 hc.2 hz
    rw [if_pos (by omega), tmod_pos x0, tmod_pos y0, tmod_pos z0, tdiv_pos x0, tdiv_pos y0, tdiv_pos z0,
      w64 (x := x % 100) (by omega) (by omega), w64 (x := y % 100) (by omega) (by omega), w64 (x := z % 100) (by omega) (by omega),
      wu64 (x := x / 100) (by omega) (by omega), wu64 (x := y / 100) (by omega) (by omega), wu64 (x := z / 100) (by omega) (by omega), w64 (x := j + 1) (by omega) (by omega)]
    have D := decTakes hx.1 hx.2 hy.1 hy.2 qd
    have dx := digits hx.1 hx.2
    have dy := digits hy.1 hy.2
    have dz := digits hzz.1 hzz.2
    have A0 : 0 ≤ 16 * (x % 100 / 10) + x % 100 % 10 ∧ 16 * (x % 100 / 10) + x % 100 % 10 < 256 := by clear ih D dx dy dz M V hz; omega
    have B0 : 0 ≤ 16 * (y % 100 / 10) + y % 100 % 10 ∧ 16 * (y % 100 / 10) + y % 100 % 10 < 256 := by clear ih D dx dy dz M V hz; omega
    have E := sbc_bd (a := 16 * (x % 100 / 10) + x % 100 % 10) (m := 16 * (y % 100 / 10) + y % 100 % 10) q0 q1
    have F := sbc A0.1 A0.2 B0.1 B0.2 q0 q1
    rw [M] at D
    rw [dx, Option.bind_some, dy, Option.bind_some, F, Option.bind_some, dz, Option.bind_some]
    simp only []
    rw [if_pos D.1]
    obtain ⟨D1, D2, D3⟩ := D
    rw [← D2] at V
    clear D1 D2 dx dy dz A0 B0 F M hz
    generalize sbcP (16 * (x % 100 / 10) + x % 100 % 10) (16 * (y % 100 / 10) + y % 100 % 10) q = Q at *
    refine ih (k + 1) _ _ Q _ _ b less ?_ ?_ ?_ ?_ ?_ E.2.1 E.2.2 D3 V ?_ ?_ hb ?_ ?_ ?_
    · clear ih; omega
    · clear ih; omega
    · clear ih; omega
    · clear ih; omega
    · clear ih; omega
    · clear ih; omega
    · clear ih; omega
    · clear ih; omega
    · clear ih; omega
    · clear ih; omega

set_option maxHeartbeats 2000000 in
theorem AluLongTakes : tandemlaw3_AluLongTakes.Pure := by
  intro x y p wx wy wp
  obtain ⟨x0, x1⟩ := of_u64 wx
  obtain ⟨y0, y1⟩ := of_u64 wy
  obtain ⟨p0, p1⟩ := of_u8 wp
  refine ⟨40, ?_⟩
  unfold tandemlaw3_AluLongTakes.f
  rw [with_ p0 p1, Option.bind_some]
  simp only [Bool.false_eq_true, if_false, if_true]
  have hq : 0 ≤ p / 16 * 16 + p % 8 / 2 * 2 + 1 + 0 ∧ p / 16 * 16 + p % 8 / 2 * 2 + 1 + 0 < 256 ∧ (p / 16 * 16 + p % 8 / 2 * 2 + 1 + 0) / 8 % 2 = 0 ∧ (p / 16 * 16 + p % 8 / 2 * 2 + 1 + 0) % 2 = 1 := by omega
  generalize p / 16 * 16 + p % 8 / 2 * 2 + 1 + 0 = q at *
  obtain ⟨q0, q1, qd, qc⟩ := hq
  have h0 : (0 : Int) = x % 1 - y % 1 + 1 * (1 - q % 2) ∧ (0 : Int) ≤ 0 ∧ (0 : Int) < 1 := by clear wx wy wp; omega
  obtain ⟨Q1, R1, e1, a1, b1, c1, l1, u1, f1, v1, n1⟩ := roundA 38 (x := x) (y := y) (p := p) (q := q) (s := 0) (i := 0) (j := 8) (B := 1) (by decide) (by decide) (by decide) (shr_at x).1 (shr_at y).1
    (fun r r0 r1 => by rw [(shl_at r r0 r1).1]; exact orr 0 (by decide) (by decide) (by decide) r0 r1) q0 q1 qd
  have j1 := less (by decide) (show (256 : Int) = 1 * 256 by decide) h0.1 h0.2.1 h0.2.2 l1 u1 f1
  clear f1 v1 n1
  generalize 0 + R1 * 1 = S1 at *
  obtain ⟨Q2, R2, e2, a2, b2, c2, l2, u2, f2, v2, n2⟩ := roundA 37 (x := x) (y := y) (p := p) (q := Q1) (s := S1) (i := 8) (j := 16) (B := 256) (by decide) (by decide) (by decide) (shr_at x).2.1 (shr_at y).2.1
    (fun r r0 r1 => by rw [(shl_at r r0 r1).2.1]; exact orr 8 (by decide) j1.2.1 j1.2.2 r0 r1) a1 b1 c1
  have j2 := less (by decide) (show (65536 : Int) = 256 * 256 by decide) j1.1 j1.2.1 j1.2.2 l2 u2 f2
  clear f2 v2 n2
  generalize S1 + R2 * 256 = S2 at *
  obtain ⟨Q3, R3, e3, a3, b3, c3, l3, u3, f3, v3, n3⟩ := roundA 36 (x := x) (y := y) (p := p) (q := Q2) (s := S2) (i := 16) (j := 24) (B := 65536) (by decide) (by decide) (by decide) (shr_at x).2.2.1 (shr_at y).2.2.1
    (fun r r0 r1 => by rw [(shl_at r r0 r1).2.2.1]; exact orr 16 (by decide) j2.2.1 j2.2.2 r0 r1) a2 b2 c2
  have j3 := less (by decide) (show (16777216 : Int) = 65536 * 256 by decide) j2.1 j2.2.1 j2.2.2 l3 u3 f3
  clear f3 v3 n3
  generalize S2 + R3 * 65536 = S3 at *
  obtain ⟨Q4, R4, e4, a4, b4, c4, l4, u4, f4, v4, n4⟩ := roundA 35 (x := x) (y := y) (p := p) (q := Q3) (s := S3) (i := 24) (j := 32) (B := 16777216) (by decide) (by decide) (by decide) (shr_at x).2.2.2.1 (shr_at y).2.2.2.1
    (fun r r0 r1 => by rw [(shl_at r r0 r1).2.2.2.1]; exact orr 24 (by decide) j3.2.1 j3.2.2 r0 r1) a3 b3 c3
  have j4 := less (by decide) (show (4294967296 : Int) = 16777216 * 256 by decide) j3.1 j3.2.1 j3.2.2 l4 u4 f4
  clear f4 v4 n4
  generalize S3 + R4 * 16777216 = S4 at *
  obtain ⟨Q5, R5, e5, a5, b5, c5, l5, u5, f5, v5, n5⟩ := roundA 34 (x := x) (y := y) (p := p) (q := Q4) (s := S4) (i := 32) (j := 40) (B := 4294967296) (by decide) (by decide) (by decide) (shr_at x).2.2.2.2.1 (shr_at y).2.2.2.2.1
    (fun r r0 r1 => by rw [(shl_at r r0 r1).2.2.2.2.1]; exact orr 32 (by decide) j4.2.1 j4.2.2 r0 r1) a4 b4 c4
  have j5 := less (by decide) (show (1099511627776 : Int) = 4294967296 * 256 by decide) j4.1 j4.2.1 j4.2.2 l5 u5 f5
  clear f5 v5 n5
  generalize S4 + R5 * 4294967296 = S5 at *
  obtain ⟨Q6, R6, e6, a6, b6, c6, l6, u6, f6, v6, n6⟩ := roundA 33 (x := x) (y := y) (p := p) (q := Q5) (s := S5) (i := 40) (j := 48) (B := 1099511627776) (by decide) (by decide) (by decide) (shr_at x).2.2.2.2.2.1 (shr_at y).2.2.2.2.2.1
    (fun r r0 r1 => by rw [(shl_at r r0 r1).2.2.2.2.2.1]; exact orr 40 (by decide) j5.2.1 j5.2.2 r0 r1) a5 b5 c5
  have j6 := less (by decide) (show (281474976710656 : Int) = 1099511627776 * 256 by decide) j5.1 j5.2.1 j5.2.2 l6 u6 f6
  clear f6 v6 n6
  generalize S5 + R6 * 1099511627776 = S6 at *
  obtain ⟨Q7, R7, e7, a7, b7, c7, l7, u7, f7, v7, n7⟩ := roundA 32 (x := x) (y := y) (p := p) (q := Q6) (s := S6) (i := 48) (j := 56) (B := 281474976710656) (by decide) (by decide) (by decide) (shr_at x).2.2.2.2.2.2.1 (shr_at y).2.2.2.2.2.2.1
    (fun r r0 r1 => by rw [(shl_at r r0 r1).2.2.2.2.2.2.1]; exact orr 48 (by decide) j6.2.1 j6.2.2 r0 r1) a6 b6 c6
  have j7 := less (by decide) (show (72057594037927936 : Int) = 281474976710656 * 256 by decide) j6.1 j6.2.1 j6.2.2 l7 u7 f7
  clear f7 v7 n7
  generalize S6 + R7 * 281474976710656 = S7 at *
  obtain ⟨Q8, R8, e8, a8, b8, c8, l8, u8, f8, v8, n8⟩ := roundA 31 (x := x) (y := y) (p := p) (q := Q7) (s := S7) (i := 56) (j := 64) (B := 72057594037927936) (by decide) (by decide) (by decide) (shr_at x).2.2.2.2.2.2.2 (shr_at y).2.2.2.2.2.2.2
    (fun r r0 r1 => by rw [(shl_at r r0 r1).2.2.2.2.2.2.2]; exact orr 56 (by decide) j7.2.1 j7.2.2 r0 r1) a7 b7 c7
  have j8 := less (by decide) (show (18446744073709551616 : Int) = 72057594037927936 * 256 by decide) j7.1 j7.2.1 j7.2.2 l8 u8 f8
  clear f8 
  obtain ⟨S8, hS8⟩ : ∃ S8, S8 = S7 + R8 * 72057594037927936 := ⟨_, rfl⟩
  rw [← hS8] at e8 j8
  have hR := top_s hS8 j7.2.1 j7.2.2
  have hX := top_x x0 x1
  have hY := top_x y0 y1
  rw [small_x x0 x1, small_x y0 y1] at j8
  clear hS8 l8 u8
  rw [e1, e2, e3, e4, e5, e6, e7, e8]
  clear e1 e2 e3 e4 e5 e6 e7 e8 a1 b1 c1 l1 u1 j1 a2 b2 c2 l2 u2 j2 a3 b3 c3 l3 u3 j3 a4 b4 c4 l4 u4 j4 a5 b5 c5 l5 u5 j5 a6 b6 c6 l6 u6 j6 a7 b7 c7 l7 u7 j7 h0 q0 q1 qd qc wx wy wp
  unfold ovf at v8
  rw [hR, hX, hY] at v8
  rw [hR] at n8
  have hz : IntKind.u64.wrap (x - y) = S8 := by rw [IntKind.wrap_u64]; omega
  have hN : ∀ b : Bool, b = decide (Q8 / 64 % 2 = 1) → tandemlaw3_AluLongTakes.j1 31 x y p Q8 S8 S8 b = some true := by
    intro b hb
    simp only [tandemlaw3_AluLongTakes.j1, if_true]
    rw [has1 a8 b8, Option.bind_some, if_neg (by by_cases h : Q8 % 2 = 1 <;> simp [h] <;> omega), has64 a8 b8, Option.bind_some, if_neg (by rw [hb]; simp), has128 a8 b8, Option.bind_some]
    have h8 : (decide (Q8 / 128 = 1) != (S8 / 9223372036854775808 == 1)) = false := by
      rw [n8]; by_cases h : S8 / 9223372036854775808 = 1 <;> simp [h]
    rw [h8]
    clear hb h8 n8 v8 hz j8 a8 b8 c8 hR hX hY
    simp only [tandemlaw3_AluLongTakes.j2, Bool.false_eq_true, if_false]
    rw [with_ p0 p1, Option.bind_some]
    simp only [if_true]
    have hw : 0 ≤ p / 16 * 16 + p % 8 / 2 * 2 + 1 + 8 ∧ p / 16 * 16 + p % 8 / 2 * 2 + 1 + 8 < 256 ∧ (p / 16 * 16 + p % 8 / 2 * 2 + 1 + 8) / 8 % 2 = 1 ∧ (p / 16 * 16 + p % 8 / 2 * 2 + 1 + 8) % 2 = 1 := by omega
    generalize p / 16 * 16 + p % 8 / 2 * 2 + 1 + 8 = q at *
    rw [tmod_pos x0, tmod_pos y0]
    have hx : 0 ≤ x % 10000000000000000 ∧ x % 10000000000000000 < 10000000000000000 := by omega
    have hy : 0 ≤ y % 10000000000000000 ∧ y % 10000000000000000 < 10000000000000000 := by omega
    generalize x % 10000000000000000 = X at *
    generalize y % 10000000000000000 = Y at *
    rw [wu64 (x := X + 10000000000000000) (by omega) (by omega), wu64 (x := X + 10000000000000000 - Y) (by omega) (by omega), tmod_pos (by omega)]
    have e100 : (100 : Int) ^ 8 = 10000000000000000 := by decide +kernel
    have hd : (X + 10000000000000000 - Y) % 10000000000000000 = X - Y - (1 - q % 2) + 10000000000000000 * (if decide (X < Y) = true then 1 else 0) := by
      simp only [decide_eq_true_eq]; split <;> omega
    exact decimal 8 29 _ _ _ _ 0 _ _ hx.1 (by rw [e100]; exact hx.2) hy.1 (by rw [e100]; exact hy.2) (by rw [e100]; exact Int.le_refl _) hw.1 hw.2.1 hw.2.2.1 (by rw [e100]; exact hd) (by omega) (by rw [e100]; omega) rfl (by decide) (by decide) (by decide)
  simp only [tandemlaw3_AluLongTakes.l0]
  rw [if_neg (by decide), hz]
  by_cases h : x / 9223372036854775808 = y / 9223372036854775808
  · rw [if_pos h]
    refine hN _ ?_
    rw [v8, if_neg (fun g => g.1 h)]; rfl
  · rw [if_neg h]
    refine hN _ ?_
    rw [v8]
    by_cases h' : S8 / 9223372036854775808 = x / 9223372036854775808
    · rw [h']; simp
    · rw [if_pos ⟨h, fun e => h' e.symm⟩]; simp [h']

end Go.Proofs.Ytajffjhfecckbaa.Pure
