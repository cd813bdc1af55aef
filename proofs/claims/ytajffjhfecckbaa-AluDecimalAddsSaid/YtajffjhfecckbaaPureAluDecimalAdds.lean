/- For all bytes, flags and carries the law AluDecimalAdds answers true: the decimal sum of two digits and two and C; no condition. -/
import Derived.Test.YtajffjhfecckbaaPAluDecimalAddsx1
import Derived.Test.YtajffjhfecckbaaAluBits
import Derived.Test.YtajffjhfecckbaaAluDec
namespace Go.Proofs.Ytajffjhfecckbaa.Pure
open Go.RowKit Go.Proofs.Ytajffjhfecckbaa.PAluDecimalAdds Go.Proofs.YtajffjhfecckbaaW.PrintWords Go.Proofs.YtajffjhfecckbaaW.PrintLast Go.Proofs.YtajffjhfecckbaaW.PrintMore
open Go Go.Proofs.Ytajffjhfecckbaa.AB

theorem put1 {p : Int} (h0 : 0 ≤ p) (h1 : p < 256) (b : Bool) : alu_put.f p 1 b = some (p / 2 * 2 + if b = true then 1 else 0) := by
  cases b <;> simp [alu_put.f, no1 h0 h1, or1 h0 h1]
theorem put2 {p : Int} (h0 : 0 ≤ p) (h1 : p < 256) (b : Bool) : alu_put.f p 2 b = some (p / 4 * 4 + (if b = true then 2 else 0) + p % 2) := by
  cases b <;> simp [alu_put.f, no2 h0 h1, or2 h0 h1]
theorem put64 {p : Int} (h0 : 0 ≤ p) (h1 : p < 256) (b : Bool) : alu_put.f p 64 b = some (p / 128 * 128 + (if b = true then 64 else 0) + p % 64) := by
  cases b <;> simp [alu_put.f, no64 h0 h1, or64 h0 h1]
theorem nz {r p : Int} (r0 : 0 ≤ r) (r1 : r < 256) (h0 : 0 ≤ p) (h1 : p < 256) :
    alu_Nz.f r p = some (r / 128 * 128 + p % 128 / 4 * 4 + (if r = 0 then 2 else 0) + p % 2) := by
  unfold alu_Nz.f
  rw [no130 h0 h1, and128 r0 r1]
  by_cases h : r = 0
  · rw [if_pos h, if_pos h, or2 (by omega) (by omega), or_top (by omega) (by omega) (by omega)]; congr 1; omega
  · rw [if_neg h, if_neg h, or_top (by omega) (by omega) (by omega)]; congr 1; omega
theorem carry {p : Int} (h0 : 0 ≤ p) (h1 : p < 256) : alu_carry.f p = some (p % 2) := by
  unfold alu_carry.f; rw [and1 h0 h1, w64 (by omega) (by omega)]
theorem adc (k : Nat) {a m p : Int} (a0 : 0 ≤ a) (a1 : a < 256) (m0 : 0 ≤ m) (m1 : m < 256) (p0 : 0 ≤ p) (p1 : p < 256) :
    alu_Adc.f (k + 1) a m p = some (adcR a m p, adcP a m p) := by
  have B : 0 ≤ ovf a (sum8 a m p) m (sum8 a m p) ∧ ovf a (sum8 a m p) m (sum8 a m p) ≤ 1 := ovf_01 _ _ _ _
  have L := @lowA_bd a m p
  unfold alu_Adc.f
  rw [carry p0 p1, Option.bind_some, and8 p0 p1]
  by_cases hd : p / 8 % 2 = 0
  · rw [if_pos (by omega)]
    rw [w64 (x := a) (by omega) (by omega), w64 (x := m) (by omega) (by omega), w64 (x := a + m) (by omega) (by omega), w64 (x := a + m + p % 2) (by omega) (by omega)]
    rw [put1 p0 p1, Option.bind_some, vtest (by omega) (by omega) (by omega) (by omega) (by omega) (by omega) (by omega) (by omega), vt, put64 (by split <;> omega) (by split <;> omega), Option.bind_some,
      nz (by omega) (by omega) (by split <;> split <;> omega) (by split <;> split <;> omega), Option.bind_some]
    simp only [decide_eq_true_eq]
    congr 1
    simp only [Prod.mk.injEq, adcR, adcP, adcC, sum8, ovf, mkP, if_pos hd, true_and]
    split <;> split <;> split <;> omega
  · rw [if_neg (by omega), Option.bind_some, and15 a0 a1, and15 m0 m1]
    have hlow : ∀ {x : Int} (y : Option (Int × Int)), (alu_Adc.j0 (k + 1) a m p (wrap64 ((wrap64 ((wrap64 a) + (wrap64 m))) + p % 2)) (lowA a m p) = y) →
        (if wrap64 (wrap64 (wrap64 (a % 16) + wrap64 (m % 16)) + p % 2) > 9 then alu_Adc.j0 (k + 1) a m p (wrap64 ((wrap64 ((wrap64 a) + (wrap64 m))) + p % 2)) (wrap64 ((Go.bits .and .i64 (wrap64 (wrap64 (wrap64 (wrap64 (a % 16) + wrap64 (m % 16)) + p % 2) + 6)) 15) + 16)) else alu_Adc.j0 (k + 1) a m p (wrap64 ((wrap64 ((wrap64 a) + (wrap64 m))) + p % 2)) (wrap64 (wrap64 (wrap64 (a % 16) + wrap64 (m % 16)) + p % 2))) = y := by
      intro _ y hy
      rw [w64 (x := a % 16) (by omega) (by omega), w64 (x := m % 16) (by omega) (by omega), w64 (x := a % 16 + m % 16) (by omega) (by omega), w64 (x := a % 16 + m % 16 + p % 2) (by omega) (by omega)]
      rw [w64 (x := a % 16 + m % 16 + p % 2 + 6) (by omega) (by omega), and15i (by omega) (by omega), w64 (x := (a % 16 + m % 16 + p % 2 + 6) % 16 + 16) (by omega) (by omega)]
      rw [← hy]; unfold lowA
      split <;> rfl
    apply hlow (x := 0)
    simp only [alu_Adc.j0]
    rw [w64 (x := a) (by omega) (by omega), w64 (x := m) (by omega) (by omega), w64 (x := a + m) (by omega) (by omega), w64 (x := a + m + p % 2) (by omega) (by omega)]
    rw [and240 a0 a1, and240 m0 m1, w64 (x := a / 16 * 16) (by omega) (by omega), w64 (x := m / 16 * 16) (by omega) (by omega), w64 (x := a / 16 * 16 + m / 16 * 16) (by omega) (by omega), w64 (x := a / 16 * 16 + m / 16 * 16 + lowA a m p) (by omega) (by omega)]
    rw [show a / 16 * 16 + m / 16 * 16 + lowA a m p = decA a m p from rfl]
    have D : 0 ≤ decA a m p ∧ decA a m p ≤ 511 := by unfold decA; omega
    rw [w64 (x := decA a m p + 96) (by omega) (by omega)]
    rw [nz (by omega) (by omega) p0 p1, Option.bind_some, vtest (by omega) (by omega) (by omega) (by omega) (by omega) (by omega) (by omega) (by omega), vt, put64 (by split <;> omega) (by split <;> omega), Option.bind_some, put2 (by split <;> split <;> omega) (by split <;> split <;> omega), Option.bind_some]
    rw [put1 (by split <;> split <;> split <;> omega) (by split <;> split <;> split <;> omega), put1 (by split <;> split <;> split <;> omega) (by split <;> split <;> split <;> omega)]
    simp only [Option.bind_some, decide_eq_true_eq, beq_iff_eq]
    rw [chainA (by omega) (by omega), chainA (by omega) (by omega)]
    simp only [adcR, adcP, adcC, sum8, ovf, if_neg hd]
    by_cases h1 : decA a m p ≥ 160
    · simp only [if_pos h1, if_pos (show decA a m p + 96 > 255 by omega)]
    · simp only [if_neg h1, if_neg (show ¬ decA a m p > 255 by omega)]
theorem adc_bd {a m p : Int} (a0 : 0 ≤ a) (a1 : a < 256) (m0 : 0 ≤ m) (m1 : m < 256) (p0 : 0 ≤ p) (p1 : p < 256) :
    (0 ≤ adcR a m p ∧ adcR a m p < 256) ∧ (0 ≤ adcP a m p ∧ adcP a m p < 256) := by
  have L := @lowA_bd a m p
  have D : 0 ≤ decA a m p ∧ decA a m p ≤ 511 := by unfold decA; omega
  refine ⟨by unfold adcR; split <;> (try split) <;> omega, mkP_bd p0 p1 ?_ ?_ (ovf_01 _ _ _ _).1 (ovf_01 _ _ _ _).2 ?_ ?_ ?_ ?_⟩
  · unfold sum8; split <;> omega
  · unfold sum8; split <;> omega
  · split <;> omega
  · split <;> omega
  · unfold adcC; split <;> (try split) <;> omega
  · unfold adcC; split <;> (try split) <;> omega
theorem with_ {p : Int} (h0 : 0 ≤ p) (h1 : p < 256) (c d : Bool) : tandemlaw3_with.f p c d = some (p / 16 * 16 + p % 8 / 2 * 2 + (if c = true then 1 else 0) + if d = true then 8 else 0) := by
  unfold tandemlaw3_with.f
  rw [no9 h0 h1]
  cases c <;> cases d <;> simp only [if_true, if_false, Bool.false_eq_true]
  · congr 1; omega
  · rw [or8 (by omega) (by omega)]; congr 1; omega
  · rw [or1 (by omega) (by omega)]; congr 1; omega
  · rw [or1 (by omega) (by omega), or8 (by omega) (by omega)]; congr 1; omega
theorem has1 {p : Int} (h0 : 0 ≤ p) (h1 : p < 256) : tandemlaw3_has.f p 1 = some (decide (p % 2 = 1)) := by
  unfold tandemlaw3_has.f; rw [and1 h0 h1]; congr 1
  by_cases h : p % 2 = 1
  · rw [h]; rfl
  · rw [show p % 2 = 0 by omega]; rfl
theorem has8 {p : Int} (h0 : 0 ≤ p) (h1 : p < 256) : tandemlaw3_has.f p 8 = some (decide (p / 8 % 2 = 1)) := by
  unfold tandemlaw3_has.f; rw [and8 h0 h1]; congr 1
  by_cases h : p / 8 % 2 = 1
  · rw [h]; rfl
  · rw [show p / 8 % 2 = 0 by omega]; rfl
theorem one_ (c : Bool) : tandemlaw3_one.f c = some (if c = true then 1 else 0) := by cases c <;> rfl
theorem digits {n : Int} (h0 : 0 ≤ n) (h1 : n < 100) : tandemlaw3_digits.f n = some (16 * (n / 10) + n % 10) := by
  unfold tandemlaw3_digits.f
  rw [tdiv_pos h0, tmod_pos h0, w64 (x := n / 10) (by omega) (by omega), w64 (x := 16 * (n / 10)) (by omega) (by omega), w64 (x := 16 * (n / 10) + n % 10) (by omega) (by omega)]
  congr 1; omega
theorem AluDecimalAdds : tandemlaw3_AluDecimalAdds.Pure := by
  intro n m p c wn wm wp
  obtain ⟨n0, n1⟩ := of_u8 wn
  obtain ⟨m0, m1⟩ := of_u8 wm
  obtain ⟨p0, p1⟩ := of_u8 wp
  refine ⟨1, ?_⟩
  unfold tandemlaw3_AluDecimalAdds.f
  rw [w64 (x := n) (by omega) (by omega), w64 (x := m) (by omega) (by omega), tmod_pos (x := n) n0, tmod_pos (x := m) m0]
  have hx : 0 ≤ n % 100 ∧ n % 100 < 100 := by omega
  have hy : 0 ≤ m % 100 ∧ m % 100 < 100 := by omega
  generalize n % 100 = x at *
  generalize m % 100 = y at *
  rw [digits hx.1 hx.2, Option.bind_some, digits hy.1 hy.2, Option.bind_some, with_ p0 p1, Option.bind_some, one_]
  have hc : 0 ≤ (if c = true then (1 : Int) else 0) ∧ (if c = true then (1 : Int) else 0) ≤ 1 := by split <;> omega
  generalize (if c = true then (1 : Int) else 0) = ci at *
  rw [if_pos rfl]
  have hq : 0 ≤ p / 16 * 16 + p % 8 / 2 * 2 + ci + 8 ∧ p / 16 * 16 + p % 8 / 2 * 2 + ci + 8 < 256 ∧ (p / 16 * 16 + p % 8 / 2 * 2 + ci + 8) / 8 % 2 = 1 ∧ (p / 16 * 16 + p % 8 / 2 * 2 + ci + 8) % 2 = ci := by omega
  generalize p / 16 * 16 + p % 8 / 2 * 2 + ci + 8 = q at *
  obtain ⟨q0, q1, q8, qc⟩ := hq
  have D := decAdds hx.1 hx.2 hy.1 hy.2 q8
  have E := adc_bd (a := 16 * (x / 10) + x % 10) (m := 16 * (y / 10) + y % 10) (by omega) (by omega) (by omega) (by omega) q0 q1
  rw [adc 0 (by omega) (by omega) (by omega) (by omega) q0 q1]
  simp only [Option.bind_some]
  rw [w64 (x := x + y) (by omega) (by omega), w64 (x := x + y + ci) (by omega) (by omega), tmod_pos (by omega), digits (by omega) (by omega)]
  simp only [Option.bind_some]
  rw [if_pos (by rw [D.1, qc]), has1 E.2.1 E.2.2, has8 E.2.1 E.2.2]
  simp only [Option.bind_some]
  rw [D.2.1, D.2.2, qc]
  by_cases h : x + y + ci ≥ 100
  · rw [if_pos h]; simp [h]
  · rw [if_neg h]; simp [h]

end Go.Proofs.Ytajffjhfecckbaa.Pure
