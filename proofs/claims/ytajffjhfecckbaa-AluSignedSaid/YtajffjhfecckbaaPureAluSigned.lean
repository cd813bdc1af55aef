/- For all bytes, flags and carries the law AluSigned answers true: V tells of the signed sum or difference out of its byte, N and V which is less, and Cmp does what Sbc does; no condition. -/
import Derived.Test.YtajffjhfecckbaaXAluSignedx2
import Derived.Test.YtajffjhfecckbaaAluBits
namespace Go.Proofs.Ytajffjhfecckbaa.Pure
open Go.RowKit Go.Proofs.Ytajffjhfecckbaa.XAluSigned Go.Proofs.YtajffjhfecckbaaW.PrintWords Go.Proofs.YtajffjhfecckbaaW.PrintLast Go.Proofs.YtajffjhfecckbaaW.PrintMore
set_option linter.unusedVariables false
open Go Go.Proofs.Ytajffjhfecckbaa.AB

theorem put1 {p : Int} (h0 : 0 ≤ p) (h1 : p < 256) (b : Bool) : alu_put.f p 1 b = some (p / 2 * 2 + if b = true then 1 else 0) := by
  cases b <;> simp [alu_put.f, no1 h0 h1, or1 h0 h1]
theorem put2 {p : Int} (h0 : 0 ≤ p) (h1 : p < 256) (b : Bool) : alu_put.f p 2 b = some (p / 4 * 4 + (if b = true then 2 else 0) + p % 2) := by
  cases b <;> simp [alu_put.f, no2 h0 h1, or2 h0 h1]
theorem put64 {p : Int} (h0 : 0 ≤ p) (h1 : p < 256) (b : Bool) : alu_put.f p 64 b = some (p / 128 * 128 + (if b = true then 64 else 0) + p % 64) := by
  cases b <;> simp [alu_put.f, no64 h0 h1, or64 h0 h1]
theorem nz {r p : Int} (r0 : 0 ≤ r) (r1 : r < 256) (h0 : 0 ≤ p) (h1 : p < 256) :
    alu_Nz.f r p = some (r / 128 * 128 + p % 128 / 4 * 4 + (if r = 0 then 2 else 0) + p % 2) := by
  unfold alu_Nz.f
  rw [no130 h0 h1, and128 r0 r1]
  by_cases h : r = 0
  · rw [if_pos h, if_pos h, or2 (by omega) (by omega), or_top (by omega) (by omega) (by omega)]; congr 1; omega
  · rw [if_neg h, if_neg h, or_top (by omega) (by omega) (by omega)]; congr 1; omega
theorem carry {p : Int} (h0 : 0 ≤ p) (h1 : p < 256) : alu_carry.f p = some (p % 2) := by
  unfold alu_carry.f; rw [and1 h0 h1, w64 (by omega) (by omega)]
theorem adc (k : Nat) {a m p : Int} (a0 : 0 ≤ a) (a1 : a < 256) (m0 : 0 ≤ m) (m1 : m < 256) (p0 : 0 ≤ p) (p1 : p < 256) :
    alu_Adc.f (k + 1) a m p = some (adcR a m p, adcP a m p) := by
  have B : 0 ≤ ovf a (sum8 a m p) m (sum8 a m p) ∧ ovf a (sum8 a m p) m (sum8 a m p) ≤ 1 := ovf_01 _ _ _ _
  have L := @lowA_bd a m p
  unfold alu_Adc.f
  rw [carry p0 p1, Option.bind_some, and8 p0 p1]
  by_cases hd : p / 8 % 2 = 0
  · rw [if_pos (by omega)]
    rw [w64 (x := a) (by omega) (by omega), w64 (x := m) (by omega) (by omega), w64 (x := a + m) (by omega) (by omega), w64 (x := a + m + p % 2) (by omega) (by omega)]
    rw [put1 p0 p1, Option.bind_some, vtest (by omega) (by omega) (by omega) (by omega) (by omega) (by omega) (by omega) (by omega), vt, put64 (by split <;> omega) (by split <;> omega), Option.bind_some,
      nz (by omega) (by omega) (by split <;> split <;> omega) (by split <;> split <;> omega), Option.bind_some]
    simp only [decide_eq_true_eq]
    congr 1
    simp only [Prod.mk.injEq, adcR, adcP, adcC, sum8, ovf, mkP, if_pos hd, true_and]
    split <;> split <;> split <;> omega
  · rw [if_neg (by omega), Option.bind_some, and15 a0 a1, and15 m0 m1]
    have hlow : ∀ {x : Int} (y : Option (Int × Int)), (alu_Adc.j0 (k + 1) a m p (wrap64 ((wrap64 ((wrap64 a) + (wrap64 m))) + p % 2)) (lowA a m p) = y) →
        (if wrap64 (wrap64 (wrap64 (a % 16) + wrap64 (m % 16)) + p % 2) > 9 then alu_Adc.j0 (k + 1) a m p (wrap64 ((wrap64 ((wrap64 a) + (wrap64 m))) + p % 2)) (wrap64 ((Go.bits .and .i64 (wrap64 (wrap64 (wrap64 (wrap64 (a % 16) + wrap64 (m % 16)) + p % 2) + 6)) 15) + 16)) else alu_Adc.j0 (k + 1) a m p (wrap64 ((wrap64 ((wrap64 a) + (wrap64 m))) + p % 2)) (wrap64 (wrap64 (wrap64 (a % 16) + wrap64 (m % 16)) + p % 2))) = y := by
      intro _ y hy
      rw [w64 (x := a % 16) (by omega) (by omega), w64 (x := m % 16) (by omega) (by omega), w64 (x := a % 16 + m % 16) (by omega) (by omega), w64 (x := a % 16 + m % 16 + p % 2) (by omega) (by omega)]
      rw [w64 (x := a % 16 + m % 16 + p % 2 + 6) (by omega) (by omega), and15i (by omega) (by omega), w64 (x := (a % 16 + m % 16 + p % 2 + 6) % 16 + 16) (by omega) (by omega)]
      rw [← hy]; unfold lowA
      split <;> rfl
    apply hlow (x := 0)
    simp only [alu_Adc.j0]
    rw [w64 (x := a) (by omega) (by omega), w64 (x := m) (by omega) (by omega), w64 (x := a + m) (by omega) (by omega), w64 (x := a + m + p % 2) (by omega) (by omega)]
    rw [and240 a0 a1, and240 m0 m1, w64 (x := a / 16 * 16) (by omega) (by omega), w64 (x := m / 16 * 16) (by omega) (by omega), w64 (x := a / 16 * 16 + m / 16 * 16) (by omega) (by omega), w64 (x := a / 16 * 16 + m / 16 * 16 + lowA a m p) (by omega) (by omega)]
    rw [show a / 16 * 16 + m / 16 * 16 + lowA a m p = decA a m p from rfl]
    have D : 0 ≤ decA a m p ∧ decA a m p ≤ 511 := by unfold decA; omega
    rw [w64 (x := decA a m p + 96) (by omega) (by omega)]
    rw [nz (by omega) (by omega) p0 p1, Option.bind_some, vtest (by omega) (by omega) (by omega) (by omega) (by omega) (by omega) (by omega) (by omega), vt, put64 (by split <;> omega) (by split <;> omega), Option.bind_some, put2 (by split <;> split <;> omega) (by split <;> split <;> omega), Option.bind_some]
    rw [put1 (by split <;> split <;> split <;> omega) (by split <;> split <;> split <;> omega), put1 (by split <;> split <;> split <;> omega) (by split <;> split <;> split <;> omega)]
    simp only [Option.bind_some, decide_eq_true_eq, beq_iff_eq]
    rw [chainA (by omega) (by omega), chainA (by omega) (by omega)]
    simp only [adcR, adcP, adcC, sum8, ovf, if_neg hd]
    by_cases h1 : decA a m p ≥ 160
    · simp only [if_pos h1, if_pos (show decA a m p + 96 > 255 by omega)]
    · simp only [if_neg h1, if_neg (show ¬ decA a m p > 255 by omega)]
theorem adc_bd {a m p : Int} (a0 : 0 ≤ a) (a1 : a < 256) (m0 : 0 ≤ m) (m1 : m < 256) (p0 : 0 ≤ p) (p1 : p < 256) :
    (0 ≤ adcR a m p ∧ adcR a m p < 256) ∧ (0 ≤ adcP a m p ∧ adcP a m p < 256) := by
  have L := @lowA_bd a m p
  have D : 0 ≤ decA a m p ∧ decA a m p ≤ 511 := by unfold decA; omega
  refine ⟨by unfold adcR; split <;> (try split) <;> omega, mkP_bd p0 p1 ?_ ?_ (ovf_01 _ _ _ _).1 (ovf_01 _ _ _ _).2 ?_ ?_ ?_ ?_⟩
  · unfold sum8; split <;> omega
  · unfold sum8; split <;> omega
  · split <;> omega
  · split <;> omega
  · unfold adcC; split <;> (try split) <;> omega
  · unfold adcC; split <;> (try split) <;> omega
theorem sbc {a m p : Int} (a0 : 0 ≤ a) (a1 : a < 256) (m0 : 0 ≤ m) (m1 : m < 256) (p0 : 0 ≤ p) (p1 : p < 256) :
    alu_Sbc.f a m p = some (sbcR a m p, sbcP a m p) := by
  have L := @lowS_bd a m p
  unfold alu_Sbc.f
  rw [carry p0 p1, Option.bind_some]
  rw [w64 (x := a) (by omega) (by omega), w64 (x := m) (by omega) (by omega), w64 (x := a - m) (by omega) (by omega), w64 (x := 1 - p % 2) (by omega) (by omega), w64 (x := a - m - (1 - p % 2)) (by omega) (by omega)]
  rw [show a - m - (1 - p % 2) = dif a m p from rfl]
  have D : -256 ≤ dif a m p ∧ dif a m p ≤ 255 := by unfold dif; omega
  rw [put1 p0 p1, Option.bind_some, vtest (by omega) (by omega) (by omega) (by omega) (by omega) (by omega) (by omega) (by omega), vt, put64 (by split <;> omega) (by split <;> omega), Option.bind_some,
    nz (by omega) (by omega) (by split <;> split <;> omega) (by split <;> split <;> omega), Option.bind_some]
  simp only [decide_eq_true_eq]
  have hP : dif a m p % 256 / 128 * 128 + ((p / 2 * 2 + if dif a m p ≥ 0 then 1 else 0) / 128 * 128 + (if a / 128 ≠ m / 128 ∧ a / 128 ≠ dif a m p % 256 / 128 then 64 else 0) + (p / 2 * 2 + if dif a m p ≥ 0 then 1 else 0) % 64) % 128 / 4 * 4 + (if dif a m p % 256 = 0 then 2 else 0) + ((p / 2 * 2 + if dif a m p ≥ 0 then 1 else 0) / 128 * 128 + (if a / 128 ≠ m / 128 ∧ a / 128 ≠ dif a m p % 256 / 128 then 64 else 0) + (p / 2 * 2 + if dif a m p ≥ 0 then 1 else 0) % 64) % 2 = sbcP a m p := by
    simp only [sbcP, mkP, ovf]
    split <;> split <;> split <;> omega
  rw [hP, and8 p0 p1]
  by_cases hd : p / 8 % 2 = 0
  · rw [if_pos (by omega)]; simp only [sbcR, if_pos hd]
  · rw [if_neg (by omega), and15 a0 a1, and15 m0 m1, and240 a0 a1, and240 m0 m1]
    rw [w64 (x := a % 16) (by omega) (by omega), w64 (x := m % 16) (by omega) (by omega), w64 (x := a % 16 - m % 16) (by omega) (by omega), w64 (x := a % 16 - m % 16 - (1 - p % 2)) (by omega) (by omega)]
    rw [w64 (x := a % 16 - m % 16 - (1 - p % 2) - 6) (by omega) (by omega), and15i (by omega) (by omega), w64 (x := (a % 16 - m % 16 - (1 - p % 2) - 6) % 16 - 16) (by omega) (by omega)]
    rw [w64 (x := a / 16 * 16) (by omega) (by omega), w64 (x := m / 16 * 16) (by omega) (by omega), w64 (x := a / 16 * 16 - m / 16 * 16) (by omega) (by omega)]
    have E : decB a m p = a / 16 * 16 - m / 16 * 16 + lowS a m p := rfl
    simp only [sbcR, if_neg hd]
    by_cases h1 : a % 16 - m % 16 - (1 - p % 2) < 0
    · have e : lowS a m p = (a % 16 - m % 16 - (1 - p % 2) - 6) % 16 - 16 := by unfold lowS; rw [if_pos h1]
      rw [if_pos h1, ← e, ← E, w64 (x := decB a m p) (by omega) (by omega), w64 (x := decB a m p - 96) (by omega) (by omega)]
      split <;> rfl
    · have e : lowS a m p = a % 16 - m % 16 - (1 - p % 2) := by unfold lowS; rw [if_neg h1]
      rw [if_neg h1, ← e, ← E, w64 (x := decB a m p) (by omega) (by omega), w64 (x := decB a m p - 96) (by omega) (by omega)]
      split <;> rfl
theorem sbc_bd {a m p : Int} (p0 : 0 ≤ p) (p1 : p < 256) :
    (0 ≤ sbcR a m p ∧ sbcR a m p < 256) ∧ (0 ≤ sbcP a m p ∧ sbcP a m p < 256) := by
  refine ⟨by unfold sbcR; split <;> (try split) <;> omega, mkP_bd p0 p1 ?_ ?_ (ovf_01 _ _ _ _).1 (ovf_01 _ _ _ _).2 ?_ ?_ ?_ ?_⟩
  · omega
  · omega
  · split <;> omega
  · split <;> omega
  · split <;> omega
  · split <;> omega
theorem with_ {p : Int} (h0 : 0 ≤ p) (h1 : p < 256) (c d : Bool) : tandemlaw3_with.f p c d = some (p / 16 * 16 + p % 8 / 2 * 2 + (if c = true then 1 else 0) + if d = true then 8 else 0) := by
  unfold tandemlaw3_with.f
  rw [no9 h0 h1]
  cases c <;> cases d <;> simp only [if_true, if_false, Bool.false_eq_true]
  · congr 1; omega
  · rw [or8 (by omega) (by omega)]; congr 1; omega
  · rw [or1 (by omega) (by omega)]; congr 1; omega
  · rw [or1 (by omega) (by omega), or8 (by omega) (by omega)]; congr 1; omega
theorem has1 {p : Int} (h0 : 0 ≤ p) (h1 : p < 256) : tandemlaw3_has.f p 1 = some (decide (p % 2 = 1)) := by
  unfold tandemlaw3_has.f; rw [and1 h0 h1]; congr 1
  by_cases h : p % 2 = 1
  · rw [h]; rfl
  · rw [show p % 2 = 0 by omega]; rfl
theorem has64 {p : Int} (h0 : 0 ≤ p) (h1 : p < 256) : tandemlaw3_has.f p 64 = some (decide (p / 64 % 2 = 1)) := by
  unfold tandemlaw3_has.f; rw [and64 h0 h1]; congr 1
  by_cases h : p / 64 % 2 = 1
  · rw [h]; rfl
  · rw [show p / 64 % 2 = 0 by omega]; rfl
theorem has128 {p : Int} (h0 : 0 ≤ p) (h1 : p < 256) : tandemlaw3_has.f p 128 = some (decide (p / 128 = 1)) := by
  unfold tandemlaw3_has.f; rw [and128 h0 h1]; congr 1
  by_cases h : p / 128 = 1
  · rw [h]; rfl
  · rw [show p / 128 = 0 by omega]; rfl
theorem has2 {p : Int} (h0 : 0 ≤ p) (h1 : p < 256) : tandemlaw3_has.f p 2 = some (decide (p / 2 % 2 = 1)) := by
  unfold tandemlaw3_has.f; rw [and2 h0 h1]; congr 1
  by_cases h : p / 2 % 2 = 1
  · rw [h]; rfl
  · rw [show p / 2 % 2 = 0 by omega]; rfl
theorem one_ (c : Bool) : tandemlaw3_one.f c = some (if c = true then 1 else 0) := by cases c <;> rfl
def sg (v : Int) : Int := if v ≥ 128 then v - 256 else v
theorem sg_bd {v : Int} (h0 : 0 ≤ v) (h1 : v < 256) : -128 ≤ sg v ∧ sg v ≤ 127 := by unfold sg; split <;> omega
theorem signed_ {v : Int} (h0 : 0 ≤ v) (h1 : v < 256) : tandemlaw3_signed.f v = some (sg v) := by
  unfold tandemlaw3_signed.f sg
  rw [w64 (x := v) (by omega) (by omega), w64 (x := v - 256) (by omega) (by omega)]
  split <;> rfl
theorem adc_bin {a m q : Int} (a0 : 0 ≤ a) (a1 : a < 256) (m0 : 0 ≤ m) (m1 : m < 256) (q0 : 0 ≤ q) (qd : q / 8 % 2 = 0) :
    adcR a m q = (a + m + q % 2) % 256 ∧ adcP a m q / 64 % 2 = ovf a (adcR a m q) m (adcR a m q) := by
  have eR : adcR a m q = (a + m + q % 2) % 256 := by unfold adcR; rw [if_pos qd]
  have eS : sum8 a m q = adcR a m q := by unfold sum8; rw [if_pos qd, eR]
  have eC : adcC a m q = (a + m + q % 2) / 256 := by unfold adcC; rw [if_pos qd]
  have hc : 0 ≤ adcC a m q ∧ adcC a m q ≤ 1 := by rw [eC]; clear eR eS eC; omega
  have hv := ovf_01 a (adcR a m q) m (adcR a m q)
  unfold adcP
  rw [eS]
  exact ⟨eR, mkP_v q0 hv.1 hv.2 (it01 _).1 (it01 _).2 hc.1 hc.2⟩
theorem sbc_bin {a m q : Int} (q0 : 0 ≤ q) (qd : q / 8 % 2 = 0) :
    sbcR a m q = (a - m - (1 - q % 2)) % 256 ∧ sbcP a m q / 64 % 2 = ovf a m a (sbcR a m q) ∧ sbcP a m q / 128 = sbcR a m q / 128 ∧ sbcP a m q / 2 % 2 = (if sbcR a m q = 0 then 1 else 0) ∧ sbcP a m q % 2 = (if a - m - (1 - q % 2) ≥ 0 then 1 else 0) := by
  have eR : sbcR a m q = dif a m q % 256 := by unfold sbcR; rw [if_pos qd]
  have hv := ovf_01 a m a (sbcR a m q)
  unfold sbcP
  rw [← eR]
  refine ⟨eR, mkP_v q0 hv.1 hv.2 (it01 _).1 (it01 _).2 (it01 _).1 (it01 _).2, mkP_n q0 hv.1 hv.2 (it01 _).1 (it01 _).2 (it01 _).1 (it01 _).2, mkP_z (it01 _).1 (it01 _).2 (it01 _).1 (it01 _).2, ?_⟩
  rw [mkP_c]; unfold dif; clear hv eR; split <;> rfl
/-- V of a sum, and the sum's own byte. -/
theorem v_sum {a m c r : Int} (a0 : 0 ≤ a) (a1 : a < 256) (m0 : 0 ≤ m) (m1 : m < 256) (c0 : 0 ≤ c) (c1 : c ≤ 1) (hr : r = (a + m + c) % 256) :
    (ovf a r m r = 1 ↔ (sg a + sg m + c < -128 ∨ sg a + sg m + c > 127)) ∧ (sg a + sg m + c) % 256 = r := by
  unfold ovf sg; subst hr
  constructor
  · split <;> split <;> split <;> constructor <;> intro h <;> omega
  · split <;> split <;> omega
theorem v_dif {a m c r : Int} (a0 : 0 ≤ a) (a1 : a < 256) (m0 : 0 ≤ m) (m1 : m < 256) (c0 : 0 ≤ c) (c1 : c ≤ 1) (hr : r = (a - m - (1 - c)) % 256) :
    ovf a m a r = 1 ↔ (sg a - sg m - 1 + c < -128 ∨ sg a - sg m - 1 + c > 127) := by
  unfold ovf sg; subst hr
  split <;> split <;> split <;> constructor <;> intro h <;> omega
theorem less_dif {a m r : Int} (a0 : 0 ≤ a) (a1 : a < 256) (m0 : 0 ≤ m) (m1 : m < 256) (hr : r = (a - m) % 256) :
    (r / 128 = 1 → (ovf a m a r = 1 ↔ ¬ sg a < sg m)) ∧ (¬ r / 128 = 1 → (ovf a m a r = 1 ↔ sg a < sg m)) := by
  unfold ovf sg; subst hr
  refine ⟨fun h => ?_, fun h => ?_⟩ <;> split <;> split <;> split <;> constructor <;> intro h' <;> omega
theorem cmp_ {a m p : Int} (p0 : 0 ≤ p) (p1 : p < 256) : alu_Cmp.f a m p = some ((a - m) % 256 / 128 * 128 + p % 128 / 4 * 4 + (if (a - m) % 256 = 0 then 2 else 0) + if a ≥ m then 1 else 0) := by
  unfold alu_Cmp.f
  rw [put1 p0 p1, Option.bind_some, nz (by omega) (by omega) (by split <;> omega) (by split <;> omega), Option.bind_some]
  simp only [decide_eq_true_eq, Option.some.injEq]
  generalize (a - m) % 256 = r
  by_cases h : a ≥ m
  · rw [if_pos h]; generalize (if r = 0 then (2 : Int) else 0) = z; omega
  · rw [if_neg h]; generalize (if r = 0 then (2 : Int) else 0) = z; omega
theorem aid_c {a m : Int} : (if a - m - (1 - 1) ≥ 0 then (1 : Int) else 0) = if a ≥ m then 1 else 0 := by split <;> split <;> omega
theorem aid_z {a m : Int} (a0 : 0 ≤ a) (a1 : a < 256) (m0 : 0 ≤ m) (m1 : m < 256) : (if (a - m) % 256 = 0 then (1 : Int) else 0) = if a = m then 1 else 0 := by split <;> split <;> omega
theorem aid_4 {P x y : Int} (h1 : P / 2 % 2 = x) (h2 : P % 2 = y) : P % 4 = 2 * x + y := by omega
/-- What a comparison makes of the flags. -/
def cm (r p : Int) (a m : Int) : Int := r / 128 * 128 + p % 128 / 4 * 4 + (if r = 0 then 2 else 0) + if a ≥ m then 1 else 0
theorem cm_bd {r p a m : Int} (r0 : 0 ≤ r) (r1 : r < 256) (p0 : 0 ≤ p) (p1 : p < 256) : 0 ≤ cm r p a m ∧ cm r p a m < 256 := by unfold cm; split <;> split <;> omega
theorem cm_131 {r p a m : Int} (r0 : 0 ≤ r) (r1 : r < 256) (p0 : 0 ≤ p) (p1 : p < 256) : cm r p a m / 128 * 128 + cm r p a m % 4 = r / 128 * 128 + (2 * (if r = 0 then 1 else 0) + if a ≥ m then 1 else 0) := by unfold cm; split <;> split <;> omega
theorem cm_n131 {r p a m : Int} (r0 : 0 ≤ r) (r1 : r < 256) (p0 : 0 ≤ p) (p1 : p < 256) : cm r p a m % 128 / 4 * 4 = p % 128 / 4 * 4 := by unfold cm; split <;> split <;> omega
theorem last (k : Nat) {a m p : Int} (a0 : 0 ≤ a) (a1 : a < 256) (m0 : 0 ≤ m) (m1 : m < 256) (p0 : 0 ≤ p) (p1 : p < 256) : tandemlaw3_AluSigned.j1 (k + 1) a m p false = some true := by
  simp only [tandemlaw3_AluSigned.j1, Bool.false_eq_true, if_false]
  rw [with_ p0 p1, Option.bind_some]
  simp only [Bool.false_eq_true, if_false, if_true]
  have hq : 0 ≤ p / 16 * 16 + p % 8 / 2 * 2 + 1 + 0 ∧ p / 16 * 16 + p % 8 / 2 * 2 + 1 + 0 < 256 ∧ (p / 16 * 16 + p % 8 / 2 * 2 + 1 + 0) / 8 % 2 = 0 ∧ (p / 16 * 16 + p % 8 / 2 * 2 + 1 + 0) % 2 = 1 := by omega
  generalize p / 16 * 16 + p % 8 / 2 * 2 + 1 + 0 = q at *
  obtain ⟨q0, q1, qd, qc⟩ := hq
  obtain ⟨b1, b2, b3, b4, b5⟩ := sbc_bin (a := a) (m := m) q0 qd
  have E := sbc_bd (a := a) (m := m) q0 q1
  rw [sbc a0 a1 m0 m1 q0 q1, Option.bind_some]
  simp only []
  rw [qc] at b1 b5
  have hr : sbcR a m q = (a - m) % 256 := by rw [b1]; congr 1; omega
  obtain ⟨l1, l2⟩ := less_dif a0 a1 m0 m1 hr
  rw [← b2, ← b3] at l1 l2
  rw [aid_c] at b5
  have R0 : 0 ≤ (a - m) % 256 ∧ (a - m) % 256 < 256 := by omega
  rw [hr] at b3 b4
  have hZ : sbcP a m q / 2 % 2 = if a = m then 1 else 0 := by rw [b4, aid_z a0 a1 m0 m1]
  have e4 := aid_4 b4 b5
  rw [signed_ a0 a1, signed_ m0 m1]
  simp only [Option.bind_some]
  rw [has1 E.2.1 E.2.2, has2 E.2.1 E.2.2, has64 E.2.1 E.2.2, has128 E.2.1 E.2.2, cmp_ p0 p1]
  simp only [Option.bind_some]
  generalize sbcP a m q = P at *
  have A1 : (decide (P % 2 = 1) != decide (a ≥ m)) = false := by rw [b5]; by_cases h : a ≥ m <;> simp [h]
  have A2 : (decide (P / 2 % 2 = 1) != (a == m)) = false := by rw [hZ]; by_cases h : a = m <;> simp [h]
  have hcm : (a - m) % 256 / 128 * 128 + p % 128 / 4 * 4 + (if (a - m) % 256 = 0 then 2 else 0) + (if a ≥ m then 1 else 0) = cm ((a - m) % 256) p a m := rfl
  have B := cm_bd (a := a) (m := m) R0.1 R0.2 p0 p1
  have c1 : bits .and .u8 (cm ((a - m) % 256) p a m) 131 = bits .and .u8 P 131 := by
    rw [and131 E.2.1 E.2.2, and131 B.1 B.2, cm_131 R0.1 R0.2 p0 p1, b3, e4]
  have c2 : bits .andNot .u8 (cm ((a - m) % 256) p a m) 131 = bits .andNot .u8 p 131 := by
    rw [no131 p0 p1, no131 B.1 B.2, cm_n131 R0.1 R0.2 p0 p1]
  rw [hcm]
  have fin : (if (decide (P % 2 = 1) != decide (a ≥ m)) = true then some false else (if (decide (P / 2 % 2 = 1) != (a == m)) = true then some false else (if sbcR a m q = (a - m) % 256 then (if bits .and .u8 (cm ((a - m) % 256) p a m) 131 = bits .and .u8 P 131 then some (bits .andNot .u8 (cm ((a - m) % 256) p a m) 131 == bits .andNot .u8 p 131) else some false) else some false))) = some true := by
    rw [A1, A2, if_pos hr, if_pos c1, c2]; simp
  by_cases h1 : P / 128 = 1
  · rw [if_pos (by simp [h1])]
    have h2 := l1 h1
    by_cases h : sg a < sg m
    · rw [if_neg (by simpa using fun e => (h2.1 e) h), if_pos h]; exact fin
    · rw [if_pos (by simpa using h2.2 h), if_neg h]; exact fin
  · rw [if_neg (by simp [h1])]
    have h2 := l2 h1
    by_cases h : sg a < sg m
    · rw [if_pos (by simpa using h2.2 h), if_pos h]; exact fin
    · rw [if_neg (by simpa using fun e => h (h2.1 e)), if_neg h]; exact fin
theorem middle (k : Nat) {a m p : Int} (c : Bool) (a0 : 0 ≤ a) (a1 : a < 256) (m0 : 0 ≤ m) (m1 : m < 256) (p0 : 0 ≤ p) (p1 : p < 256) : tandemlaw3_AluSigned.j0 (k + 2) a m p c false = some true := by
  simp only [tandemlaw3_AluSigned.j0, Bool.false_eq_true, if_false]
  rw [with_ p0 p1, Option.bind_some, one_]
  simp only [Bool.false_eq_true, if_false]
  have hc := it01 (c = true)
  generalize (if c = true then (1 : Int) else 0) = ci at *
  have hq : 0 ≤ p / 16 * 16 + p % 8 / 2 * 2 + ci + 0 ∧ p / 16 * 16 + p % 8 / 2 * 2 + ci + 0 < 256 ∧ (p / 16 * 16 + p % 8 / 2 * 2 + ci + 0) / 8 % 2 = 0 ∧ (p / 16 * 16 + p % 8 / 2 * 2 + ci + 0) % 2 = ci := by omega
  generalize p / 16 * 16 + p % 8 / 2 * 2 + ci + 0 = q at *
  obtain ⟨q0, q1, qd, qc⟩ := hq
  obtain ⟨b1, b2, _, _, _⟩ := sbc_bin (a := a) (m := m) q0 qd
  have E := sbc_bd (a := a) (m := m) q0 q1
  rw [sbc a0 a1 m0 m1 q0 q1, Option.bind_some, signed_ a0 a1, signed_ m0 m1]
  simp only [Option.bind_some]
  rw [qc] at b1
  have V := v_dif a0 a1 m0 m1 hc.1 hc.2 b1
  rw [← b2] at V
  have A := sg_bd a0 a1
  have M := sg_bd m0 m1
  rw [has64 E.2.1 E.2.2, Option.bind_some, w64 (x := sg a - sg m) (by omega) (by omega), w64 (x := sg a - sg m - 1) (by omega) (by omega), w64 (x := sg a - sg m - 1 + ci) (by omega) (by omega)]
  by_cases h : sg a - sg m - 1 + ci < -128
  · rw [if_pos h, decide_eq_true (V.2 (Or.inl h))]
    exact last k a0 a1 m0 m1 p0 p1
  · rw [if_neg h]
    have e : (decide (sbcP a m q / 64 % 2 = 1) != decide (sg a - sg m - 1 + ci > 127)) = false := by
      by_cases h' : sg a - sg m - 1 + ci > 127
      · rw [decide_eq_true (V.2 (Or.inr h')), decide_eq_true h']; rfl
      · rw [decide_eq_false (fun g => (V.1 g).elim h h'), decide_eq_false h']; rfl
    rw [e]; exact last k a0 a1 m0 m1 p0 p1
theorem AluSigned : tandemlaw3_AluSigned.Pure := by
  intro a m p c wa wm wp
  obtain ⟨a0, a1⟩ := of_u8 wa
  obtain ⟨m0, m1⟩ := of_u8 wm
  obtain ⟨p0, p1⟩ := of_u8 wp
  refine ⟨3, ?_⟩
  unfold tandemlaw3_AluSigned.f
  rw [with_ p0 p1, Option.bind_some, one_]
  simp only [Bool.false_eq_true, if_false]
  have hc := it01 (c = true)
  generalize (if c = true then (1 : Int) else 0) = ci at *
  have hq : 0 ≤ p / 16 * 16 + p % 8 / 2 * 2 + ci + 0 ∧ p / 16 * 16 + p % 8 / 2 * 2 + ci + 0 < 256 ∧ (p / 16 * 16 + p % 8 / 2 * 2 + ci + 0) / 8 % 2 = 0 ∧ (p / 16 * 16 + p % 8 / 2 * 2 + ci + 0) % 2 = ci := by omega
  generalize p / 16 * 16 + p % 8 / 2 * 2 + ci + 0 = q at *
  obtain ⟨q0, q1, qd, qc⟩ := hq
  obtain ⟨b1, b2⟩ := adc_bin a0 a1 m0 m1 q0 qd
  have E := adc_bd a0 a1 m0 m1 q0 q1
  rw [adc 2 a0 a1 m0 m1 q0 q1, Option.bind_some, signed_ a0 a1, signed_ m0 m1]
  simp only [Option.bind_some]
  rw [qc] at b1
  obtain ⟨V, S⟩ := v_sum a0 a1 m0 m1 hc.1 hc.2 b1
  rw [← b2] at V
  have A := sg_bd a0 a1
  have M := sg_bd m0 m1
  rw [has64 E.2.1 E.2.2, Option.bind_some, w64 (x := sg a + sg m) (by omega) (by omega), w64 (x := sg a + sg m + ci) (by omega) (by omega)]
  rw [and255i (by omega) (by omega), S, show adcR a m q % 256 = adcR a m q by omega, signed_ E.1.1 E.1.2]
  simp only [Option.bind_some]
  by_cases h : sg a + sg m + ci < -128
  · rw [if_pos h, decide_eq_true (V.2 (Or.inl h)), if_pos rfl]
    simp only [bne_self_eq_false]
    exact middle 1 c a0 a1 m0 m1 p0 p1
  · rw [if_neg h]
    have e : (decide (adcP a m q / 64 % 2 = 1) != decide (sg a + sg m + ci > 127)) = false := by
      by_cases h' : sg a + sg m + ci > 127
      · rw [decide_eq_true (V.2 (Or.inr h')), decide_eq_true h']; rfl
      · rw [decide_eq_false (fun g => (V.1 g).elim h h'), decide_eq_false h']; rfl
    rw [e, if_neg (by decide)]
    simp only [bne_self_eq_false]
    exact middle 1 c a0 a1 m0 m1 p0 p1

end Go.Proofs.Ytajffjhfecckbaa.Pure
