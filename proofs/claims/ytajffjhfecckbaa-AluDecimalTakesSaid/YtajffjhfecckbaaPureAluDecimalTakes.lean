/- For all bytes, flags and borrows the law AluDecimalTakes answers true: the decimal difference of two digits and two and the borrow; no condition. -/
import Derived.Test.YtajffjhfecckbaaPAluDecimalTakesx1
import Derived.Test.YtajffjhfecckbaaAluBits
import Derived.Test.YtajffjhfecckbaaAluDec
namespace Go.Proofs.Ytajffjhfecckbaa.Pure
open Go.RowKit Go.Proofs.Ytajffjhfecckbaa.PAluDecimalTakes Go.Proofs.YtajffjhfecckbaaW.PrintWords Go.Proofs.YtajffjhfecckbaaW.PrintLast Go.Proofs.YtajffjhfecckbaaW.PrintMore
open Go Go.Proofs.Ytajffjhfecckbaa.AB

theorem put1 {p : Int} (h0 : 0 ≤ p) (h1 : p < 256) (b : Bool) : alu_put.f p 1 b = some (p / 2 * 2 + if b = true then 1 else 0) := by
  cases b <;> simp [alu_put.f, no1 h0 h1, or1 h0 h1]
theorem put2 {p : Int} (h0 : 0 ≤ p) (h1 : p < 256) (b : Bool) : alu_put.f p 2 b = some (p / 4 * 4 + (if b = true then 2 else 0) + p % 2) := by
  cases b <;> simp [alu_put.f, no2 h0 h1, or2 h0 h1]
theorem put64 {p : Int} (h0 : 0 ≤ p) (h1 : p < 256) (b : Bool) : alu_put.f p 64 b = some (p / 128 * 128 + (if b = true then 64 else 0) + p % 64) := by
  cases b <;> simp [alu_put.f, no64 h0 h1, or64 h0 h1]
theorem nz {r p : Int} (r0 : 0 ≤ r) (r1 : r < 256) (h0 : 0 ≤ p) (h1 : p < 256) :
    alu_Nz.f r p = some (r / 128 * 128 + p % 128 / 4 * 4 + (if r = 0 then 2 else 0) + p % 2) := by
  unfold alu_Nz.f
  rw [no130 h0 h1, and128 r0 r1]
  by_cases h : r = 0
  · rw [if_pos h, if_pos h, or2 (by omega) (by omega), or_top (by omega) (by omega) (by omega)]; congr 1; omega
  · rw [if_neg h, if_neg h, or_top (by omega) (by omega) (by omega)]; congr 1; omega
theorem carry {p : Int} (h0 : 0 ≤ p) (h1 : p < 256) : alu_carry.f p = some (p % 2) := by
  unfold alu_carry.f; rw [and1 h0 h1, w64 (by omega) (by omega)]
theorem sbc {a m p : Int} (a0 : 0 ≤ a) (a1 : a < 256) (m0 : 0 ≤ m) (m1 : m < 256) (p0 : 0 ≤ p) (p1 : p < 256) :
    alu_Sbc.f a m p = some (sbcR a m p, sbcP a m p) := by
  have L := @lowS_bd a m p
  unfold alu_Sbc.f
  rw [carry p0 p1, Option.bind_some]
  rw [w64 (x := a) (by omega) (by omega), w64 (x := m) (by omega) (by omega), w64 (x := a - m) (by omega) (by omega), w64 (x := 1 - p % 2) (by omega) (by omega), w64 (x := a - m - (1 - p % 2)) (by omega) (by omega)]
  rw [show a - m - (1 - p % 2) = dif a m p from rfl]
  have D : -256 ≤ dif a m p ∧ dif a m p ≤ 255 := by unfold dif; omega
  rw [put1 p0 p1, Option.bind_some, vtest (by omega) (by omega) (by omega) (by omega) (by omega) (by omega) (by omega) (by omega), vt, put64 (by split <;> omega) (by split <;> omega), Option.bind_some,
    nz (by omega) (by omega) (by split <;> split <;> omega) (by split <;> split <;> omega), Option.bind_some]
  simp only [decide_eq_true_eq]
  have hP : dif a m p % 256 / 128 * 128 + ((p / 2 * 2 + if dif a m p ≥ 0 then 1 else 0) / 128 * 128 + (if a / 128 ≠ m / 128 ∧ a / 128 ≠ dif a m p % 256 / 128 then 64 else 0) + (p / 2 * 2 + if dif a m p ≥ 0 then 1 else 0) % 64) % 128 / 4 * 4 + (if dif a m p % 256 = 0 then 2 else 0) + ((p / 2 * 2 + if dif a m p ≥ 0 then 1 else 0) / 128 * 128 + (if a / 128 ≠ m / 128 ∧ a / 128 ≠ dif a m p % 256 / 128 then 64 else 0) + (p / 2 * 2 + if dif a m p ≥ 0 then 1 else 0) % 64) % 2 = sbcP a m p := by
    simp only [sbcP, mkP, ovf]
    split <;> split <;> split <;> omega
  rw [hP, and8 p0 p1]
  by_cases hd : p / 8 % 2 = 0
  · rw [if_pos (by omega)]; simp only [sbcR, if_pos hd]
  · rw [if_neg (by omega), and15 a0 a1, and15 m0 m1, and240 a0 a1, and240 m0 m1]
    rw [w64 (x := a % 16) (by omega) (by omega), w64 (x := m % 16) (by omega) (by omega), w64 (x := a % 16 - m % 16) (by omega) (by omega), w64 (x := a % 16 - m % 16 - (1 - p % 2)) (by omega) (by omega)]
    rw [w64 (x := a % 16 - m % 16 - (1 - p % 2) - 6) (by omega) (by omega), and15i (by omega) (by omega), w64 (x := (a % 16 - m % 16 - (1 - p % 2) - 6) % 16 - 16) (by omega) (by omega)]
    rw [w64 (x := a / 16 * 16) (by omega) (by omega), w64 (x := m / 16 * 16) (by omega) (by omega), w64 (x := a / 16 * 16 - m / 16 * 16) (by omega) (by omega)]
    have E : decB a m p = a / 16 * 16 - m / 16 * 16 + lowS a m p := rfl
    simp only [sbcR, if_neg hd]
    by_cases h1 : a % 16 - m % 16 - (1 - p % 2) < 0
    · have e : lowS a m p = (a % 16 - m % 16 - (1 - p % 2) - 6) % 16 - 16 := by unfold lowS; rw [if_pos h1]
      rw [if_pos h1, ← e, ← E, w64 (x := decB a m p) (by omega) (by omega), w64 (x := decB a m p - 96) (by omega) (by omega)]
      split <;> rfl
    · have e : lowS a m p = a % 16 - m % 16 - (1 - p % 2) := by unfold lowS; rw [if_neg h1]
      rw [if_neg h1, ← e, ← E, w64 (x := decB a m p) (by omega) (by omega), w64 (x := decB a m p - 96) (by omega) (by omega)]
      split <;> rfl
theorem sbc_bd {a m p : Int} (p0 : 0 ≤ p) (p1 : p < 256) :
    (0 ≤ sbcR a m p ∧ sbcR a m p < 256) ∧ (0 ≤ sbcP a m p ∧ sbcP a m p < 256) := by
  refine ⟨by unfold sbcR; split <;> (try split) <;> omega, mkP_bd p0 p1 ?_ ?_ (ovf_01 _ _ _ _).1 (ovf_01 _ _ _ _).2 ?_ ?_ ?_ ?_⟩
  · omega
  · omega
  · split <;> omega
  · split <;> omega
  · split <;> omega
  · split <;> omega
theorem with_ {p : Int} (h0 : 0 ≤ p) (h1 : p < 256) (c d : Bool) : tandemlaw3_with.f p c d = some (p / 16 * 16 + p % 8 / 2 * 2 + (if c = true then 1 else 0) + if d = true then 8 else 0) := by
  unfold tandemlaw3_with.f
  rw [no9 h0 h1]
  cases c <;> cases d <;> simp only [if_true, if_false, Bool.false_eq_true]
  · congr 1; omega
  · rw [or8 (by omega) (by omega)]; congr 1; omega
  · rw [or1 (by omega) (by omega)]; congr 1; omega
  · rw [or1 (by omega) (by omega), or8 (by omega) (by omega)]; congr 1; omega
theorem has1 {p : Int} (h0 : 0 ≤ p) (h1 : p < 256) : tandemlaw3_has.f p 1 = some (decide (p % 2 = 1)) := by
  unfold tandemlaw3_has.f; rw [and1 h0 h1]; congr 1
  by_cases h : p % 2 = 1
  · rw [h]; rfl
  · rw [show p % 2 = 0 by omega]; rfl
theorem has8 {p : Int} (h0 : 0 ≤ p) (h1 : p < 256) : tandemlaw3_has.f p 8 = some (decide (p / 8 % 2 = 1)) := by
  unfold tandemlaw3_has.f; rw [and8 h0 h1]; congr 1
  by_cases h : p / 8 % 2 = 1
  · rw [h]; rfl
  · rw [show p / 8 % 2 = 0 by omega]; rfl
theorem one_ (c : Bool) : tandemlaw3_one.f c = some (if c = true then 1 else 0) := by cases c <;> rfl
theorem digits {n : Int} (h0 : 0 ≤ n) (h1 : n < 100) : tandemlaw3_digits.f n = some (16 * (n / 10) + n % 10) := by
  unfold tandemlaw3_digits.f
  rw [tdiv_pos h0, tmod_pos h0, w64 (x := n / 10) (by omega) (by omega), w64 (x := 16 * (n / 10)) (by omega) (by omega), w64 (x := 16 * (n / 10) + n % 10) (by omega) (by omega)]
  congr 1; omega
theorem AluDecimalTakes : tandemlaw3_AluDecimalTakes.Pure := by
  intro n m p c wn wm wp
  obtain ⟨n0, n1⟩ := of_u8 wn
  obtain ⟨m0, m1⟩ := of_u8 wm
  obtain ⟨p0, p1⟩ := of_u8 wp
  unfold tandemlaw3_AluDecimalTakes.f
  rw [w64 (x := n) (by omega) (by omega), w64 (x := m) (by omega) (by omega), tmod_pos (x := n) n0, tmod_pos (x := m) m0]
  have hx : 0 ≤ n % 100 ∧ n % 100 < 100 := by omega
  have hy : 0 ≤ m % 100 ∧ m % 100 < 100 := by omega
  generalize n % 100 = x at *
  generalize m % 100 = y at *
  rw [digits hx.1 hx.2, Option.bind_some, digits hy.1 hy.2, Option.bind_some, with_ p0 p1, Option.bind_some, one_]
  have hc : 0 ≤ (if c = true then (1 : Int) else 0) ∧ (if c = true then (1 : Int) else 0) ≤ 1 := by split <;> omega
  generalize (if c = true then (1 : Int) else 0) = ci at *
  rw [if_pos rfl]
  have hq : 0 ≤ p / 16 * 16 + p % 8 / 2 * 2 + ci + 8 ∧ p / 16 * 16 + p % 8 / 2 * 2 + ci + 8 < 256 ∧ (p / 16 * 16 + p % 8 / 2 * 2 + ci + 8) / 8 % 2 = 1 ∧ (p / 16 * 16 + p % 8 / 2 * 2 + ci + 8) % 2 = ci := by omega
  generalize p / 16 * 16 + p % 8 / 2 * 2 + ci + 8 = q at *
  obtain ⟨q0, q1, q8, qc⟩ := hq
  have D := decTakes hx.1 hx.2 hy.1 hy.2 q8
  have E := sbc_bd (a := 16 * (x / 10) + x % 10) (m := 16 * (y / 10) + y % 10) q0 q1
  rw [sbc (by omega) (by omega) (by omega) (by omega) q0 q1]
  simp only [Option.bind_some]
  rw [w64 (x := x - y) (by omega) (by omega), w64 (x := x - y - 1) (by omega) (by omega), w64 (x := x - y - 1 + ci) (by omega) (by omega), w64 (x := x - y - 1 + ci + 100) (by omega) (by omega), tmod_pos (by omega), digits (by omega) (by omega)]
  simp only [Option.bind_some]
  rw [if_pos (by rw [D.1, qc]), has1 E.2.1 E.2.2, has8 E.2.1 E.2.2]
  simp only [Option.bind_some]
  rw [D.2.1, D.2.2, qc]
  by_cases h : x - y - 1 + ci ≥ 0
  · rw [if_pos h]; simp [h]
  · rw [if_neg h]; simp [h]

end Go.Proofs.Ytajffjhfecckbaa.Pure
