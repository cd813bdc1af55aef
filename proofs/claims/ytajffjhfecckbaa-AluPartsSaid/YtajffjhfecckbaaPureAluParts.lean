/- For every operation number, all bytes and all flags the law AluParts answers true: Nz, Shift, Adc, Sbc, Arr and Cmp are the document's; no condition. -/
import Derived.Test.YtajffjhfecckbaaXAluPartsx3
import Derived.Test.YtajffjhfecckbaaAluBits
import Derived.Test.YtajffjhfecckbaaAluFlag
namespace Go.Proofs.Ytajffjhfecckbaa.Pure
open Go.RowKit Go.Proofs.Ytajffjhfecckbaa.XAluParts Go.Proofs.YtajffjhfecckbaaW.PrintWords Go.Proofs.YtajffjhfecckbaaW.PrintLast Go.Proofs.YtajffjhfecckbaaW.PrintMore
set_option linter.unusedVariables false
open Go Go.Proofs.Ytajffjhfecckbaa.AB

theorem put1 {p : Int} (h0 : 0 ≤ p) (h1 : p < 256) (b : Bool) : alu_put.f p 1 b = some (p / 2 * 2 + if b = true then 1 else 0) := by
  cases b <;> simp [alu_put.f, no1 h0 h1, or1 h0 h1]
theorem put2 {p : Int} (h0 : 0 ≤ p) (h1 : p < 256) (b : Bool) : alu_put.f p 2 b = some (p / 4 * 4 + (if b = true then 2 else 0) + p % 2) := by
  cases b <;> simp [alu_put.f, no2 h0 h1, or2 h0 h1]
theorem put64 {p : Int} (h0 : 0 ≤ p) (h1 : p < 256) (b : Bool) : alu_put.f p 64 b = some (p / 128 * 128 + (if b = true then 64 else 0) + p % 64) := by
  cases b <;> simp [alu_put.f, no64 h0 h1, or64 h0 h1]
theorem nz {r p : Int} (r0 : 0 ≤ r) (r1 : r < 256) (h0 : 0 ≤ p) (h1 : p < 256) :
    alu_Nz.f r p = some (r / 128 * 128 + p % 128 / 4 * 4 + (if r = 0 then 2 else 0) + p % 2) := by
  unfold alu_Nz.f
  rw [no130 h0 h1, and128 r0 r1]
  by_cases h : r = 0
  · rw [if_pos h, if_pos h, or2 (by omega) (by omega), or_top (by omega) (by omega) (by omega)]; congr 1; omega
  · rw [if_neg h, if_neg h, or_top (by omega) (by omega) (by omega)]; congr 1; omega
theorem carry {p : Int} (h0 : 0 ≤ p) (h1 : p < 256) : alu_carry.f p = some (p % 2) := by
  unfold alu_carry.f; rw [and1 h0 h1, w64 (by omega) (by omega)]
theorem adc (k : Nat) {a m p : Int} (a0 : 0 ≤ a) (a1 : a < 256) (m0 : 0 ≤ m) (m1 : m < 256) (p0 : 0 ≤ p) (p1 : p < 256) :
    alu_Adc.f (k + 1) a m p = some (adcR a m p, adcP a m p) := by
  have B : 0 ≤ ovf a (sum8 a m p) m (sum8 a m p) ∧ ovf a (sum8 a m p) m (sum8 a m p) ≤ 1 := ovf_01 _ _ _ _
  have L := @lowA_bd a m p
  unfold alu_Adc.f
  rw [carry p0 p1, Option.bind_some, and8 p0 p1]
  by_cases hd : p / 8 % 2 = 0
  · rw [if_pos (by omega)]
    rw [w64 (x := a) (by omega) (by omega), w64 (x := m) (by omega) (by omega), w64 (x := a + m) (by omega) (by omega), w64 (x := a + m + p % 2) (by omega) (by omega)]
    rw [put1 p0 p1, Option.bind_some, vtest (by omega) (by omega) (by omega) (by omega) (by omega) (by omega) (by omega) (by omega), vt, put64 (by split <;> omega) (by split <;> omega), Option.bind_some,
      nz (by omega) (by omega) (by split <;> split <;> omega) (by split <;> split <;> omega), Option.bind_some]
    simp only [decide_eq_true_eq]
    congr 1
    simp only [Prod.mk.injEq, adcR, adcP, adcC, sum8, ovf, mkP, if_pos hd, true_and]
    split <;> split <;> split <;> omega
  · rw [if_neg (by omega), Option.bind_some, and15 a0 a1, and15 m0 m1]
    have hlow : ∀ {x : Int} (y : Option (Int × Int)), (alu_Adc.j0 (k + 1) a m p (wrap64 ((wrap64 ((wrap64 a) + (wrap64 m))) + p % 2)) (lowA a m p) = y) →
        (if wrap64 (wrap64 (wrap64 (a % 16) + wrap64 (m % 16)) + p % 2) > 9 then alu_Adc.j0 (k + 1) a m p (wrap64 ((wrap64 ((wrap64 a) + (wrap64 m))) + p % 2)) (wrap64 ((Go.bits .and .i64 (wrap64 (wrap64 (wrap64 (wrap64 (a % 16) + wrap64 (m % 16)) + p % 2) + 6)) 15) + 16)) else alu_Adc.j0 (k + 1) a m p (wrap64 ((wrap64 ((wrap64 a) + (wrap64 m))) + p % 2)) (wrap64 (wrap64 (wrap64 (a % 16) + wrap64 (m % 16)) + p % 2))) = y := by
      intro _ y hy
      rw [w64 (x := a % 16) (by omega) (by omega), w64 (x := m % 16) (by omega) (by omega), w64 (x := a % 16 + m % 16) (by omega) (by omega), w64 (x := a % 16 + m % 16 + p % 2) (by omega) (by omega)]
      rw [w64 (x := a % 16 + m % 16 + p % 2 + 6) (by omega) (by omega), and15i (by omega) (by omega), w64 (x := (a % 16 + m % 16 + p % 2 + 6) % 16 + 16) (by omega) (by omega)]
      rw [← hy]; unfold lowA
      split <;> rfl
    apply hlow (x := 0)
    simp only [alu_Adc.j0]
    rw [w64 (x := a) (by omega) (by omega), w64 (x := m) (by omega) (by omega), w64 (x := a + m) (by omega) (by omega), w64 (x := a + m + p % 2) (by omega) (by omega)]
    rw [and240 a0 a1, and240 m0 m1, w64 (x := a / 16 * 16) (by omega) (by omega), w64 (x := m / 16 * 16) (by omega) (by omega), w64 (x := a / 16 * 16 + m / 16 * 16) (by omega) (by omega), w64 (x := a / 16 * 16 + m / 16 * 16 + lowA a m p) (by omega) (by omega)]
    rw [show a / 16 * 16 + m / 16 * 16 + lowA a m p = decA a m p from rfl]
    have D : 0 ≤ decA a m p ∧ decA a m p ≤ 511 := by unfold decA; omega
    rw [w64 (x := decA a m p + 96) (by omega) (by omega)]
    rw [nz (by omega) (by omega) p0 p1, Option.bind_some, vtest (by omega) (by omega) (by omega) (by omega) (by omega) (by omega) (by omega) (by omega), vt, put64 (by split <;> omega) (by split <;> omega), Option.bind_some, put2 (by split <;> split <;> omega) (by split <;> split <;> omega), Option.bind_some]
    rw [put1 (by split <;> split <;> split <;> omega) (by split <;> split <;> split <;> omega), put1 (by split <;> split <;> split <;> omega) (by split <;> split <;> split <;> omega)]
    simp only [Option.bind_some, decide_eq_true_eq, beq_iff_eq]
    rw [chainA (by omega) (by omega), chainA (by omega) (by omega)]
    simp only [adcR, adcP, adcC, sum8, ovf, if_neg hd]
    by_cases h1 : decA a m p ≥ 160
    · simp only [if_pos h1, if_pos (show decA a m p + 96 > 255 by omega)]
    · simp only [if_neg h1, if_neg (show ¬ decA a m p > 255 by omega)]
theorem adc_bd {a m p : Int} (a0 : 0 ≤ a) (a1 : a < 256) (m0 : 0 ≤ m) (m1 : m < 256) (p0 : 0 ≤ p) (p1 : p < 256) :
    (0 ≤ adcR a m p ∧ adcR a m p < 256) ∧ (0 ≤ adcP a m p ∧ adcP a m p < 256) := by
  have L := @lowA_bd a m p
  have D : 0 ≤ decA a m p ∧ decA a m p ≤ 511 := by unfold decA; omega
  refine ⟨by unfold adcR; split <;> (try split) <;> omega, mkP_bd p0 p1 ?_ ?_ (ovf_01 _ _ _ _).1 (ovf_01 _ _ _ _).2 ?_ ?_ ?_ ?_⟩
  · unfold sum8; split <;> omega
  · unfold sum8; split <;> omega
  · split <;> omega
  · split <;> omega
  · unfold adcC; split <;> (try split) <;> omega
  · unfold adcC; split <;> (try split) <;> omega
theorem sbc {a m p : Int} (a0 : 0 ≤ a) (a1 : a < 256) (m0 : 0 ≤ m) (m1 : m < 256) (p0 : 0 ≤ p) (p1 : p < 256) :
    alu_Sbc.f a m p = some (sbcR a m p, sbcP a m p) := by
  have L := @lowS_bd a m p
  unfold alu_Sbc.f
  rw [carry p0 p1, Option.bind_some]
  rw [w64 (x := a) (by omega) (by omega), w64 (x := m) (by omega) (by omega), w64 (x := a - m) (by omega) (by omega), w64 (x := 1 - p % 2) (by omega) (by omega), w64 (x := a - m - (1 - p % 2)) (by omega) (by omega)]
  rw [show a - m - (1 - p % 2) = dif a m p from rfl]
  have D : -256 ≤ dif a m p ∧ dif a m p ≤ 255 := by unfold dif; omega
  rw [put1 p0 p1, Option.bind_some, vtest (by omega) (by omega) (by omega) (by omega) (by omega) (by omega) (by omega) (by omega), vt, put64 (by split <;> omega) (by split <;> omega), Option.bind_some,
    nz (by omega) (by omega) (by split <;> split <;> omega) (by split <;> split <;> omega), Option.bind_some]
  simp only [decide_eq_true_eq]
  have hP : dif a m p % 256 / 128 * 128 + ((p / 2 * 2 + if dif a m p ≥ 0 then 1 else 0) / 128 * 128 + (if a / 128 ≠ m / 128 ∧ a / 128 ≠ dif a m p % 256 / 128 then 64 else 0) + (p / 2 * 2 + if dif a m p ≥ 0 then 1 else 0) % 64) % 128 / 4 * 4 + (if dif a m p % 256 = 0 then 2 else 0) + ((p / 2 * 2 + if dif a m p ≥ 0 then 1 else 0) / 128 * 128 + (if a / 128 ≠ m / 128 ∧ a / 128 ≠ dif a m p % 256 / 128 then 64 else 0) + (p / 2 * 2 + if dif a m p ≥ 0 then 1 else 0) % 64) % 2 = sbcP a m p := by
    simp only [sbcP, mkP, ovf]
    split <;> split <;> split <;> omega
  rw [hP, and8 p0 p1]
  by_cases hd : p / 8 % 2 = 0
  · rw [if_pos (by omega)]; simp only [sbcR, if_pos hd]
  · rw [if_neg (by omega), and15 a0 a1, and15 m0 m1, and240 a0 a1, and240 m0 m1]
    rw [w64 (x := a % 16) (by omega) (by omega), w64 (x := m % 16) (by omega) (by omega), w64 (x := a % 16 - m % 16) (by omega) (by omega), w64 (x := a % 16 - m % 16 - (1 - p % 2)) (by omega) (by omega)]
    rw [w64 (x := a % 16 - m % 16 - (1 - p % 2) - 6) (by omega) (by omega), and15i (by omega) (by omega), w64 (x := (a % 16 - m % 16 - (1 - p % 2) - 6) % 16 - 16) (by omega) (by omega)]
    rw [w64 (x := a / 16 * 16) (by omega) (by omega), w64 (x := m / 16 * 16) (by omega) (by omega), w64 (x := a / 16 * 16 - m / 16 * 16) (by omega) (by omega)]
    have E : decB a m p = a / 16 * 16 - m / 16 * 16 + lowS a m p := rfl
    simp only [sbcR, if_neg hd]
    by_cases h1 : a % 16 - m % 16 - (1 - p % 2) < 0
    · have e : lowS a m p = (a % 16 - m % 16 - (1 - p % 2) - 6) % 16 - 16 := by unfold lowS; rw [if_pos h1]
      rw [if_pos h1, ← e, ← E, w64 (x := decB a m p) (by omega) (by omega), w64 (x := decB a m p - 96) (by omega) (by omega)]
      split <;> rfl
    · have e : lowS a m p = a % 16 - m % 16 - (1 - p % 2) := by unfold lowS; rw [if_neg h1]
      rw [if_neg h1, ← e, ← E, w64 (x := decB a m p) (by omega) (by omega), w64 (x := decB a m p - 96) (by omega) (by omega)]
      split <;> rfl
theorem sbc_bd {a m p : Int} (p0 : 0 ≤ p) (p1 : p < 256) :
    (0 ≤ sbcR a m p ∧ sbcR a m p < 256) ∧ (0 ≤ sbcP a m p ∧ sbcP a m p < 256) := by
  refine ⟨by unfold sbcR; split <;> (try split) <;> omega, mkP_bd p0 p1 ?_ ?_ (ovf_01 _ _ _ _).1 (ovf_01 _ _ _ _).2 ?_ ?_ ?_ ?_⟩
  · omega
  · omega
  · split <;> omega
  · split <;> omega
  · split <;> omega
  · split <;> omega
/-! ### the flags one by one -/
theorem uC {p : Int} (h0 : 0 ≤ p) (h1 : p < 256) (b : Bool) : alu_put.f p 1 b = some (pC p b) := put1 h0 h1 b
theorem uZ {p : Int} (h0 : 0 ≤ p) (h1 : p < 256) (b : Bool) : alu_put.f p 2 b = some (pZ p b) := put2 h0 h1 b
theorem uV {p : Int} (h0 : 0 ≤ p) (h1 : p < 256) (b : Bool) : alu_put.f p 64 b = some (pV p b) := put64 h0 h1 b
theorem uNz {r p : Int} (r0 : 0 ≤ r) (r1 : r < 256) (h0 : 0 ≤ p) (h1 : p < 256) : alu_Nz.f r p = some (pN (pZ p (r == 0)) (decide (r ≥ 128))) := by
  rw [nz r0 r1 h0 h1]
  congr 1
  by_cases h : r = 0
  · subst h; simp [pN, pZ]; omega
  · by_cases g : r ≥ 128 <;> simp [pN, pZ, h, g] <;> omega
theorem rC {p : Int} (h0 : 0 ≤ p) (h1 : p < 256) (b : Bool) : tandemref3_put.f p 1 b = some (pC p b) := by
  cases b <;> simp [tandemref3_put.f, no1 h0 h1, or1 h0 h1, pC]
theorem rZ {p : Int} (h0 : 0 ≤ p) (h1 : p < 256) (b : Bool) : tandemref3_put.f p 2 b = some (pZ p b) := by
  cases b <;> simp [tandemref3_put.f, no2 h0 h1, or2 h0 h1, pZ]
theorem rV {p : Int} (h0 : 0 ≤ p) (h1 : p < 256) (b : Bool) : tandemref3_put.f p 64 b = some (pV p b) := by
  cases b <;> simp [tandemref3_put.f, no64 h0 h1, or64 h0 h1, pV]
theorem rN {p : Int} (h0 : 0 ≤ p) (h1 : p < 256) (b : Bool) : tandemref3_put.f p 128 b = some (pN p b) := by
  cases b <;> simp [tandemref3_put.f, no128 h0 h1, or128 h0 h1, pN]; omega
theorem rNz {r p : Int} (h0 : 0 ≤ p) (h1 : p < 256) : tandemref3_Nz.f r p = some (pN (pZ p (r == 0)) (decide (r ≥ 128))) := by
  have N := pN_bd (p := p) (b := decide (r ≥ 128)) h0 h1
  unfold tandemref3_Nz.f
  rw [rN h0 h1, Option.bind_some, rZ N.1 N.2, Option.bind_some, pZ_pN]
theorem rRest {x : Int} (h0 : -1000000 ≤ x) (h1 : x ≤ 1000000) : tandemref3_rest.f x 256 = some (x % 256) := by
  unfold tandemref3_rest.f
  have h := @rest_256 x
  rw [if_neg (by decide)]
  by_cases g : Int.tmod x 256 < 0
  · rw [if_pos g] at h ⊢; rw [h, w64 (by omega) (by omega)]
  · rw [if_neg g] at h ⊢; rw [h]
theorem rRest16 {x : Int} (h0 : -1000000 ≤ x) (h1 : x ≤ 1000000) : tandemref3_rest.f x 16 = some (x % 16) := by
  unfold tandemref3_rest.f
  have h := @rest_16 x
  rw [if_neg (by decide)]
  by_cases g : Int.tmod x 16 < 0
  · rw [if_pos g] at h ⊢; rw [h, w64 (by omega) (by omega)]
  · rw [if_neg g] at h ⊢; rw [h]
theorem rHigh {x : Int} (h0 : -1000000 ≤ x) (h1 : x ≤ 1000000) : tandemref3_high.f x = some (decide (x % 256 ≥ 128)) := by
  unfold tandemref3_high.f; rw [rRest h0 h1, Option.bind_some]
theorem rHighB {x : Int} (h0 : 0 ≤ x) (h1 : x < 256) : tandemref3_high.f x = some (decide (x ≥ 128)) := by
  rw [rHigh (by omega) (by omega), show x % 256 = x by omega]
theorem rCarry {p : Int} (h0 : 0 ≤ p) (h1 : p < 256) : tandemref3_carry.f p = some (p % 2) := by
  unfold tandemref3_carry.f; rw [and1 h0 h1, w64 (by omega) (by omega)]
theorem uCmp {a m p : Int} (p0 : 0 ≤ p) (p1 : p < 256) : alu_Cmp.f a m p = some (pN (pZ (pC p (decide (a ≥ m))) ((a - m) % 256 == 0)) (decide ((a - m) % 256 ≥ 128))) := by
  have C := pC_bd (p := p) (b := decide (a ≥ m)) p0 p1
  unfold alu_Cmp.f
  rw [uC p0 p1, Option.bind_some, uNz (by omega) (by omega) C.1 C.2, Option.bind_some]
theorem rCmp {a m p : Int} (a0 : 0 ≤ a) (a1 : a < 256) (m0 : 0 ≤ m) (m1 : m < 256) (p0 : 0 ≤ p) (p1 : p < 256) : tandemref3_Cmp.f a m p = some (pN (pZ (pC p (decide (a ≥ m))) ((a - m) % 256 == 0)) (decide ((a - m) % 256 ≥ 128))) := by
  have C := pC_bd (p := p) (b := decide (a ≥ m)) p0 p1
  unfold tandemref3_Cmp.f
  rw [rC p0 p1, Option.bind_some, w64 (x := a) (by omega) (by omega), w64 (x := m) (by omega) (by omega), w64 (by omega) (by omega), rRest (by omega) (by omega), Option.bind_some, show (a - m) % 256 % 256 = (a - m) % 256 by omega, rNz C.1 C.2, Option.bind_some]
/-! ### shifts -/
theorem bit_out {m : Int} (m0 : 0 ≤ m) (m1 : m < 256) : (m / 128 * 128 != 0) = decide (m ≥ 128) := by
  by_cases h : m ≥ 128
  · rw [show m / 128 = 1 by omega, decide_eq_true h]; rfl
  · rw [show m / 128 = 0 by omega, decide_eq_false h]; rfl
theorem bit_low {m : Int} : (m % 2 != 0) = (m % 2 == 1) := by
  by_cases h : m % 2 = 1
  · rw [h]; rfl
  · rw [show m % 2 = 0 by omega]; rfl
theorem shifts (op : Int) {m p : Int} (m0 : 0 ≤ m) (m1 : m < 256) (p0 : 0 ≤ p) (p1 : p < 256) :
    ∃ r q, alu_Shift.f op m p = some (r, q) ∧ tandemref3_Shift.f op m p = some (r, q) ∧ 0 ≤ r ∧ r < 256 ∧ 0 ≤ q ∧ q < 256 := by
  have fin : ∀ (r : Int) (c : Bool), 0 ≤ r → r < 256 → 0 ≤ pN (pZ (pC p c) (r == 0)) (decide (r ≥ 128)) ∧ pN (pZ (pC p c) (r == 0)) (decide (r ≥ 128)) < 256 := fun r c r0 r1 => by
    have C := pC_bd (p := p) (b := c) p0 p1
    have Z := pZ_bd (p := pC p c) (b := (r == 0)) C.1 C.2
    exact pN_bd Z.1 Z.2
  have hm : wrap64 m = m := w64 (by omega) (by omega)
  have C := fun c => pC_bd (p := p) (b := c) p0 p1
  unfold alu_Shift.f tandemref3_Shift.f
  rw [hm, tmod_pos m0, tdiv_pos m0, w64 (x := 2 * m) (by omega) (by omega), w64 (x := m / 2) (by omega) (by omega), and128 m0 m1, and1 m0 m1, and1 p0 p1, bit_out m0 m1, bit_low, rCarry p0 p1]
  by_cases h2 : op = 2
  · rw [if_pos h2, if_pos h2, uC p0 p1, rC p0 p1, rRest (by omega) (by omega)]
    simp only [Option.bind_some]
    rw [uNz (by omega) (by omega) (C _).1 (C _).2, rNz (C _).1 (C _).2, show 2 * m % 256 % 256 = m * 2 % 256 by omega]
    have F := fin (m * 2 % 256) (decide (m ≥ 128)) (by omega) (by omega)
    exact ⟨_, _, rfl, rfl, by omega, by omega, F.1, F.2⟩
  rw [if_neg h2, if_neg h2]
  by_cases h39 : op = 39
  · rw [if_pos h39, if_pos h39, uC p0 p1, Option.bind_some, or_low (by omega) (by omega) (by omega) (by omega)]
    simp only [Option.bind_some]
    rw [w64 (x := 2 * m + p % 2) (by omega) (by omega), rRest (by omega) (by omega), rC p0 p1]
    simp only [Option.bind_some]
    rw [uNz (by omega) (by omega) (C _).1 (C _).2, rNz (C _).1 (C _).2, show (2 * m + p % 2) % 256 % 256 = m * 2 % 256 + p % 2 by omega]
    have F := fin (m * 2 % 256 + p % 2) (decide (m ≥ 128)) (by omega) (by omega)
    exact ⟨_, _, rfl, rfl, by omega, by omega, F.1, F.2⟩
  rw [if_neg h39, if_neg h39]
  by_cases h32 : op = 32
  · rw [if_pos h32, if_pos h32, uC p0 p1, rC p0 p1, rRest (by omega) (by omega)]
    simp only [Option.bind_some]
    rw [uNz (by omega) (by omega) (C _).1 (C _).2, rNz (C _).1 (C _).2, show m / 2 % 256 % 256 = m / 2 by omega]
    have F := fin (m / 2) (m % 2 == 1) (by omega) (by omega)
    exact ⟨_, _, rfl, rfl, by omega, by omega, F.1, F.2⟩
  rw [if_neg h32, if_neg h32]
  by_cases h40 : op = 40
  · rw [if_pos h40, if_pos h40, uC p0 p1, Option.bind_some, or_top (by omega) (by omega) (by omega)]
    simp only [Option.bind_some]
    rw [w64 (x := 128 * (p % 2)) (by omega) (by omega), w64 (x := m / 2 + 128 * (p % 2)) (by omega) (by omega), rRest (by omega) (by omega), rC p0 p1]
    simp only [Option.bind_some]
    rw [show p % 2 * 128 % 256 = 128 * (p % 2) by omega, uNz (by omega) (by omega) (C _).1 (C _).2, rNz (C _).1 (C _).2, show (m / 2 + 128 * (p % 2)) % 256 % 256 = m / 2 + 128 * (p % 2) by omega]
    have F := fin (m / 2 + 128 * (p % 2)) (m % 2 == 1) (by omega) (by omega)
    exact ⟨_, _, rfl, rfl, by omega, by omega, F.1, F.2⟩
  rw [if_neg h40, if_neg h40]
  exact ⟨m, p, rfl, rfl, m0, m1, p0, p1⟩
/-! ### the reference's sums -/
theorem vb_if {β : Type} (a m s : Int) (f : Bool → β) : (if (decide (a ≥ 128) == decide (m ≥ 128)) = true then f (decide (s % 256 ≥ 128) != decide (a ≥ 128)) else f false) = f (vb a m s) := by
  unfold vb; cases (decide (a ≥ 128) == decide (m ≥ 128)) <;> simp
theorem vs_if {β : Type} (a m s : Int) (f : Bool → β) : (if (decide (a ≥ 128) != decide (m ≥ 128)) = true then f (decide (s % 256 ≥ 128) != decide (a ≥ 128)) else f false) = f (vs a m s) := by
  unfold vs; cases (decide (a ≥ 128) != decide (m ≥ 128)) <;> simp
theorem high_ind {r : Int} (r0 : 0 ≤ r) (r1 : r < 256) : ind (decide (r ≥ 128)) = r / 128 := by
  unfold ind; by_cases h : r ≥ 128 <;> simp [h] <;> omega
theorem zero_ind {r : Int} : ind (r == 0) = if r = 0 then 1 else 0 := by unfold ind; by_cases h : r = 0 <;> simp [h]
theorem dec_ind (q : Prop) [Decidable q] : ind (decide q) = if q then 1 else 0 := by unfold ind; by_cases h : q <;> simp [h]
theorem rAdc (k : Nat) {a m p : Int} (a0 : 0 ≤ a) (a1 : a < 256) (m0 : 0 ≤ m) (m1 : m < 256) (p0 : 0 ≤ p) (p1 : p < 256) :
    tandemref3_Adc.f (k + 2) a m p = some (adcR a m p, adcP a m p) := by
  have L := @lowA_bd a m p
  have wa : wrap64 a = a := w64 (by omega) (by omega)
  have wm : wrap64 m = m := w64 (by omega) (by omega)
  have V := fun b => pV_bd (p := p) (b := b) p0 p1
  have ws : wrap64 (wrap64 (a + m) + p % 2) = a + m + p % 2 := by rw [w64 (x := a + m) (by omega) (by omega), w64 (by omega) (by omega)]
  unfold tandemref3_Adc.f
  rw [rCarry p0 p1, Option.bind_some, and8 p0 p1, wa, wm, ws]
  by_cases hd : p / 8 % 2 = 0
  · rw [if_pos (by omega), rRest (by omega) (by omega), rHighB a0 a1, rHighB m0 m1, rHigh (x := a + m + p % 2) (by omega) (by omega)]
    simp only [Option.bind_some]
    rw [vb_if a m (a + m + p % 2) (fun b => (tandemref3_put.f p 64 b).bind fun t151 => (tandemref3_put.f t151 1 (decide (a + m + p % 2 ≥ 256))).bind fun t152 => (tandemref3_Nz.f ((a + m + p % 2) % 256 % 256) t152).bind fun t153 => some ((a + m + p % 2) % 256 % 256, t153))]
    have C := fun b => pC_bd (p := pV p (vb a m (a + m + p % 2))) (b := b) (V _).1 (V _).2
    rw [rV p0 p1, Option.bind_some, rC (V _).1 (V _).2, Option.bind_some, rNz (C _).1 (C _).2, Option.bind_some, show (a + m + p % 2) % 256 % 256 = (a + m + p % 2) % 256 by omega]
    rw [pC_pV, pZ_pV, fl_mkP p0 p1, vb_ovf a0 a1 m0 m1, high_ind (by omega) (by omega), zero_ind, dec_ind]
    simp only [adcR, adcP, adcC, sum8, if_pos hd]
    congr 3
    split <;> omega
  · rw [if_neg (by omega), Option.bind_some]
    have hlow : wrap64 (wrap64 (Int.tmod a 16 + Int.tmod m 16) + p % 2) = a % 16 + m % 16 + p % 2 := by
      rw [tmod_pos a0, tmod_pos m0, w64 (x := a % 16 + m % 16) (by omega) (by omega), w64 (by omega) (by omega)]
    have h6 : wrap64 (Int.tmod (wrap64 (a % 16 + m % 16 + p % 2 + 6)) 16 + 16) = (a % 16 + m % 16 + p % 2 + 6) % 16 + 16 := by
      rw [w64 (x := a % 16 + m % 16 + p % 2 + 6) (by omega) (by omega), tmod_pos (by omega), w64 (by omega) (by omega)]
    rw [hlow, h6]
    have hj : ∀ (f : Int → Option (Int × Int)), (if a % 16 + m % 16 + p % 2 ≥ 10 then f ((a % 16 + m % 16 + p % 2 + 6) % 16 + 16) else f (a % 16 + m % 16 + p % 2)) = f (lowA a m p) := by
      intro f; unfold lowA
      by_cases h : a % 16 + m % 16 + p % 2 ≥ 10
      · rw [if_pos h, if_pos (by omega)]
      · rw [if_neg h, if_neg (by omega)]
    rw [hj (fun x => tandemref3_Adc.j0 (k + 2) a m p (a + m + p % 2) x)]
    simp only [tandemref3_Adc.j0]
    have hs : wrap64 (wrap64 (wrap64 (16 * wrap64 (Int.tdiv (wrap64 a) 16)) + wrap64 (16 * wrap64 (Int.tdiv (wrap64 m) 16))) + lowA a m p) = decA a m p := by
      rw [wa, wm, tdiv_pos a0, tdiv_pos m0, w64 (x := a / 16) (by omega) (by omega), w64 (x := m / 16) (by omega) (by omega), w64 (x := 16 * (a / 16)) (by omega) (by omega), w64 (x := 16 * (m / 16)) (by omega) (by omega), w64 (x := 16 * (a / 16) + 16 * (m / 16)) (by omega) (by omega), w64 (by omega) (by omega)]
      unfold decA; omega
    have D : 0 ≤ decA a m p ∧ decA a m p ≤ 511 := by unfold decA; omega
    rw [hs, wa, wm, rHigh (x := decA a m p) (by omega) (by omega), rHighB a0 a1, rHighB m0 m1]
    simp only [Option.bind_some]
    have N := pN_bd (p := p) (b := decide (decA a m p % 256 ≥ 128)) p0 p1
    rw [rN p0 p1, Option.bind_some]
    rw [vb_if a m (decA a m p) (fun b => (tandemref3_put.f (pN p (decide (decA a m p % 256 ≥ 128))) 64 b).bind fun t164 => tandemref3_Adc.j1 (k + 1) t164 (a + m + p % 2) (decA a m p))]
    have V := pV_bd (p := pN p (decide (decA a m p % 256 ≥ 128))) (b := vb a m (decA a m p)) N.1 N.2
    rw [rV N.1 N.2, Option.bind_some]
    simp only [tandemref3_Adc.j1]
    rw [rRest (x := a + m + p % 2) (by omega) (by omega), Option.bind_some, rZ V.1 V.2, Option.bind_some, w64 (x := decA a m p + 96) (by omega) (by omega)]
    have Z := pZ_bd (p := pV (pN p (decide (decA a m p % 256 ≥ 128))) (vb a m (decA a m p))) (b := ((a + m + p % 2) % 256 == 0)) V.1 V.2
    rw [rC Z.1 Z.2, rC Z.1 Z.2, rRest (x := decA a m p) (by omega) (by omega), rRest (x := decA a m p + 96) (by omega) (by omega)]
    simp only [Option.bind_some]
    simp only [pC_pZ, pC_pV, pC_pN, pZ_pV, pZ_pN, pV_pN]
    rw [fl_mkP p0 p1, fl_mkP p0 p1, vb_ovf a0 a1 m0 m1, high_ind (by omega) (by omega), zero_ind, dec_ind, dec_ind]
    simp only [adcR, adcP, adcC, sum8, if_neg hd]
    by_cases h1 : decA a m p ≥ 160
    · simp only [if_pos h1, if_pos (show decA a m p + 96 ≥ 256 by omega), show (decA a m p + 96) % 256 % 256 = (decA a m p + 96) % 256 by omega]
    · simp only [if_neg h1, if_neg (show ¬ decA a m p ≥ 256 by omega), show decA a m p % 256 % 256 = decA a m p % 256 by omega]
theorem rSbc (k : Nat) {a m p : Int} (a0 : 0 ≤ a) (a1 : a < 256) (m0 : 0 ≤ m) (m1 : m < 256) (p0 : 0 ≤ p) (p1 : p < 256) :
    tandemref3_Sbc.f (k + 1) a m p = some (sbcR a m p, sbcP a m p) := by
  have L := @lowS_bd a m p
  have wa : wrap64 a = a := w64 (by omega) (by omega)
  have wm : wrap64 m = m := w64 (by omega) (by omega)
  have C := fun b => pC_bd (p := p) (b := b) p0 p1
  have ws : wrap64 (wrap64 (wrap64 (a - m) - 1) + p % 2) = dif a m p := by
    rw [w64 (x := a - m) (by omega) (by omega), w64 (x := a - m - 1) (by omega) (by omega), w64 (by omega) (by omega)]; unfold dif; omega
  have D : -256 ≤ dif a m p ∧ dif a m p ≤ 255 := by unfold dif; omega
  unfold tandemref3_Sbc.f
  rw [rCarry p0 p1, Option.bind_some, wa, wm, ws, rRest (by omega) (by omega), Option.bind_some, rC p0 p1, Option.bind_some, rHighB a0 a1, rHighB m0 m1, rHigh (x := dif a m p) (by omega) (by omega)]
  simp only [Option.bind_some]
  rw [vs_if a m (dif a m p) (fun b => (tandemref3_put.f (pC p (decide (dif a m p ≥ 0))) 64 b).bind fun t179 => tandemref3_Sbc.j0 (k + 1) a m t179 (p % 2) (dif a m p % 256 % 256))]
  have V := pV_bd (p := pC p (decide (dif a m p ≥ 0))) (b := vs a m (dif a m p)) (C _).1 (C _).2
  rw [rV (C _).1 (C _).2, Option.bind_some, show dif a m p % 256 % 256 = dif a m p % 256 by omega]
  simp only [tandemref3_Sbc.j0]
  rw [rNz V.1 V.2, Option.bind_some]
  have hP : pN (pZ (pV (pC p (decide (dif a m p ≥ 0))) (vs a m (dif a m p))) (dif a m p % 256 == 0)) (decide (dif a m p % 256 ≥ 128)) = sbcP a m p := by
    rw [pZ_pV, fl_mkP p0 p1, vs_ovf a0 a1 m0 m1, high_ind (by omega) (by omega), zero_ind, dec_ind]; rfl
  rw [hP]
  have E := sbc_bd (a := a) (m := m) p0 p1
  have h8 : sbcP a m p / 8 % 2 = p / 8 % 2 := by unfold sbcP; rw [mkP_d (it01 _).1 (it01 _).2 (it01 _).1 (it01 _).2]
  rw [and8 E.2.1 E.2.2, h8]
  by_cases hd : p / 8 % 2 = 0
  · rw [if_pos (by omega)]; simp only [sbcR, if_pos hd]
  · rw [if_neg (by omega)]
    have hl : wrap64 (wrap64 (wrap64 (Int.tmod (wrap64 a) 16 - Int.tmod (wrap64 m) 16) - 1) + p % 2) = a % 16 - m % 16 - (1 - p % 2) := by
      rw [wa, wm, tmod_pos a0, tmod_pos m0, w64 (x := a % 16 - m % 16) (by omega) (by omega), w64 (x := a % 16 - m % 16 - 1) (by omega) (by omega), w64 (by omega) (by omega)]; omega
    have hh : wrap64 (wrap64 (16 * wrap64 (Int.tdiv (wrap64 a) 16)) - wrap64 (16 * wrap64 (Int.tdiv (wrap64 m) 16))) = a / 16 * 16 - m / 16 * 16 := by
      rw [wa, wm, tdiv_pos a0, tdiv_pos m0, w64 (x := a / 16) (by omega) (by omega), w64 (x := m / 16) (by omega) (by omega), w64 (x := 16 * (a / 16)) (by omega) (by omega), w64 (x := 16 * (m / 16)) (by omega) (by omega), w64 (by omega) (by omega)]; omega
    rw [hl, hh, w64 (x := a % 16 - m % 16 - (1 - p % 2) - 6) (by omega) (by omega), rRest16 (by omega) (by omega)]
    simp only [Option.bind_some]
    rw [w64 (x := (a % 16 - m % 16 - (1 - p % 2) - 6) % 16 - 16) (by omega) (by omega)]
    have E1 : decB a m p = a / 16 * 16 - m / 16 * 16 + lowS a m p := rfl
    have B : -300 ≤ decB a m p ∧ decB a m p ≤ 300 := by rw [E1]; omega
    simp only [sbcR, if_neg hd]
    by_cases h1 : a % 16 - m % 16 - (1 - p % 2) < 0
    · have e : lowS a m p = (a % 16 - m % 16 - (1 - p % 2) - 6) % 16 - 16 := by unfold lowS; rw [if_pos h1]
      rw [if_pos h1, ← e, ← E1, w64 (x := decB a m p) (by omega) (by omega), w64 (x := decB a m p - 96) (by omega) (by omega), rRest (by omega) (by omega), rRest (by omega) (by omega)]
      simp only [Option.bind_some]
      rw [show (decB a m p - 96) % 256 % 256 = (decB a m p - 96) % 256 by omega, show decB a m p % 256 % 256 = decB a m p % 256 by omega]
      split <;> rfl
    · have e : lowS a m p = a % 16 - m % 16 - (1 - p % 2) := by unfold lowS; rw [if_neg h1]
      rw [if_neg h1, ← e, ← E1, w64 (x := decB a m p) (by omega) (by omega), w64 (x := decB a m p - 96) (by omega) (by omega), rRest (by omega) (by omega), rRest (by omega) (by omega)]
      simp only [Option.bind_some]
      rw [show (decB a m p - 96) % 256 % 256 = (decB a m p - 96) % 256 by omega, show decB a m p % 256 % 256 = decB a m p % 256 by omega]
      split <;> rfl
/-! ### ARR -/
theorem bit0 {v : Int} (k : Nat) (i n : Int) (h : i = n) (v0 : 0 ≤ v) : tandemref3_bit.l0 (k + 1) v n i = some (v % 2 == 1) := by
  simp only [tandemref3_bit.l0]; rw [if_neg (by omega), tmod_pos v0]
theorem bitS {v : Int} (k : Nat) (i j n : Int) (hj : j = i + 1) (h : i < n) (i0 : 0 ≤ i) (n1 : n < 100) (v0 : 0 ≤ v) (v1 : v < 1000) : tandemref3_bit.l0 (k + 1) v n i = tandemref3_bit.l0 k (v / 2) n j := by
  simp only [tandemref3_bit.l0]; rw [if_pos h, tdiv_pos v0, w64 (x := v / 2) (by omega) (by omega), w64 (x := i + 1) (by omega) (by omega), hj]
theorem bit6 (k : Nat) {v : Int} (v0 : 0 ≤ v) (v1 : v < 256) : tandemref3_bit.f (k + 7) v 6 = some (v / 64 % 2 == 1) := by
  unfold tandemref3_bit.f
  rw [bitS (k + 6) 0 1 6 (by decide) (by decide) (by decide) (by decide) v0 (by omega), bitS (k + 5) 1 2 6 (by decide) (by decide) (by decide) (by decide) (by omega) (by omega), bitS (k + 4) 2 3 6 (by decide) (by decide) (by decide) (by decide) (by omega) (by omega),
    bitS (k + 3) 3 4 6 (by decide) (by decide) (by decide) (by decide) (by omega) (by omega), bitS (k + 2) 4 5 6 (by decide) (by decide) (by decide) (by decide) (by omega) (by omega), bitS (k + 1) 5 6 6 (by decide) (by decide) (by decide) (by decide) (by omega) (by omega), bit0 k 6 6 rfl (by omega)]
  rw [show v / 2 / 2 / 2 / 2 / 2 / 2 % 2 = v / 64 % 2 by omega]
theorem bit5 (k : Nat) {v : Int} (v0 : 0 ≤ v) (v1 : v < 256) : tandemref3_bit.f (k + 7) v 5 = some (v / 32 % 2 == 1) := by
  unfold tandemref3_bit.f
  rw [bitS (k + 6) 0 1 5 (by decide) (by decide) (by decide) (by decide) v0 (by omega), bitS (k + 5) 1 2 5 (by decide) (by decide) (by decide) (by decide) (by omega) (by omega), bitS (k + 4) 2 3 5 (by decide) (by decide) (by decide) (by decide) (by omega) (by omega),
    bitS (k + 3) 3 4 5 (by decide) (by decide) (by decide) (by decide) (by omega) (by omega), bitS (k + 2) 4 5 5 (by decide) (by decide) (by decide) (by decide) (by omega) (by omega), bit0 (k + 1) 5 5 rfl (by omega)]
  rw [show v / 2 / 2 / 2 / 2 / 2 % 2 = v / 32 % 2 by omega]
theorem is64 {x : Int} : (x / 64 % 2 * 64 != 0) = (x / 64 % 2 == 1) := by
  by_cases h : x / 64 % 2 = 1
  · rw [h]; rfl
  · rw [show x / 64 % 2 = 0 by omega]; rfl
theorem xor64 {x y : Int} (x0 : 0 ≤ x) (x1 : x < 256) (y0 : 0 ≤ y) (y1 : y < 256) : (bits .xor .u8 x y / 64 % 2 == 1) = ((x / 64 % 2 == 1) != (y / 64 % 2 == 1)) := by
  have h := xor_bit 6 (by decide) x0 x1 y0 y1
  rw [show (2 : Int) ^ 6 = 64 from rfl] at h
  rw [h]
  have hx : x / 64 % 2 = 0 ∨ x / 64 % 2 = 1 := by omega
  have hy : y / 64 % 2 = 0 ∨ y / 64 % 2 = 1 := by omega
  rcases hx with hx | hx <;> rcases hy with hy | hy <;> rw [hx, hy, show (x / 64 + y / 64) % 2 = (x / 64 % 2 + y / 64 % 2) % 2 by omega, hx, hy] <;> rfl
def arrQ (t r : Int) : Int := if t % 16 + t % 2 > 5 then r / 16 * 16 + (r + 6) % 16 else r
theorem arrQ_bd {t r : Int} (r0 : 0 ≤ r) (r1 : r < 256) : 0 ≤ arrQ t r ∧ arrQ t r < 256 := by unfold arrQ; split <;> omega
theorem arr (k : Nat) {a m p : Int} (a0 : 0 ≤ a) (a1 : a < 256) (m0 : 0 ≤ m) (m1 : m < 256) (p0 : 0 ≤ p) (p1 : p < 256) :
    ∃ r q, alu_Arr.f a m p = some (r, q) ∧ tandemref3_Arr.f (k + 7) a m p = some (r, q) ∧ 0 ≤ r ∧ r < 256 ∧ 0 ≤ q ∧ q < 256 := by
  have hT := and_bd a0 a1 m0 m1
  unfold alu_Arr.f tandemref3_Arr.f
  generalize bits .and .u8 a m = t at *
  obtain ⟨t0, t1⟩ := hT
  have wt : wrap64 t = t := w64 (by omega) (by omega)
  rw [rCarry p0 p1, Option.bind_some, Option.bind_some, and1 p0 p1, and8 p0 p1, or_top (by omega) (by omega) (by omega), wt, tdiv_pos t0, w64 (x := t / 2) (by omega) (by omega), w64 (x := 128 * (p % 2)) (by omega) (by omega), w64 (x := t / 2 + 128 * (p % 2)) (by omega) (by omega), show p % 2 * 128 % 256 = 128 * (p % 2) by omega]
  have hr : 0 ≤ t / 2 + 128 * (p % 2) ∧ t / 2 + 128 * (p % 2) < 256 := by omega
  have hN : (p % 2 == 1) = decide (t / 2 + 128 * (p % 2) ≥ 128) := by
    by_cases h : p % 2 = 1
    · rw [h]; exact (decide_eq_true (by omega)).symm
    · rw [show p % 2 = 0 by omega]; exact (decide_eq_false (by omega)).symm
  rw [hN]
  generalize t / 2 + 128 * (p % 2) = r at *
  obtain ⟨r0, r1⟩ := hr
  have Z := fun b => pZ_bd (p := p) (b := b) p0 p1
  have N := fun b c => pN_bd (p := pZ p b) (b := c) (Z b).1 (Z b).2
  by_cases hd : p / 8 % 2 = 0
  · rw [uNz r0 r1 p0 p1, Option.bind_some, if_pos (by omega), if_pos (by omega), show r % 256 = r by omega, rNz p0 p1, bit6 k r0 r1, bit5 k r0 r1, and64 r0 r1]
    have X := xor_bd r0 r1 (show 0 ≤ r * 2 % 256 by omega) (by omega)
    rw [and64 X.1 X.2, is64, is64, xor64 r0 r1 (by omega) (by omega), show r * 2 % 256 / 64 % 2 = r / 32 % 2 by omega]
    simp only [Option.bind_some]
    have C := fun b => pC_bd (p := pN (pZ p (r == 0)) (decide (r ≥ 128))) (b := b) (N _ _).1 (N _ _).2
    rw [uC (N _ _).1 (N _ _).2, rC (N _ _).1 (N _ _).2]
    simp only [Option.bind_some]
    rw [uV (C _).1 (C _).2, rV (C _).1 (C _).2]
    have V := fun b => pV_bd (p := pC (pN (pZ p (r == 0)) (decide (r ≥ 128))) (r / 64 % 2 == 1)) (b := b) (C _).1 (C _).2
    exact ⟨_, _, rfl, rfl, r0, r1, (V _).1, (V _).2⟩
  · have X := xor_bd t0 t1 r0 r1
    rw [uNz r0 r1 p0 p1, Option.bind_some, if_neg (by omega), if_neg (by omega), and64 X.1 X.2, is64, xor64 t0 t1 r0 r1, uV (N _ _).1 (N _ _).2, Option.bind_some]
    have N1 := fun b => pN_bd (p := p) (b := b) p0 p1
    have Z1 := fun b c => pZ_bd (p := pN p b) (b := c) (N1 b).1 (N1 b).2
    rw [rN p0 p1, Option.bind_some, rZ (N1 _).1 (N1 _).2, Option.bind_some, bit6 k t0 t1, bit6 k r0 r1, Option.bind_some, Option.bind_some, rV (Z1 _ _).1 (Z1 _ _).2, Option.bind_some]
    have V := fun b => pV_bd (p := pN (pZ p (r == 0)) (decide (r ≥ 128))) (b := b) (N _ _).1 (N _ _).2
    have V1 := fun b => pV_bd (p := pZ (pN p (decide (r ≥ 128))) (r == 0)) (b := b) (Z1 _ _).1 (Z1 _ _).2
    rw [and15 t0 t1, and1 t0 t1, and240 t0 t1, and16 t0 t1, w64 (x := t % 16) (by omega) (by omega), w64 (x := t % 2) (by omega) (by omega), w64 (x := t % 16 + t % 2) (by omega) (by omega),
      w64 (x := t / 16 * 16) (by omega) (by omega), w64 (x := t / 16 % 2 * 16) (by omega) (by omega), w64 (x := t / 16 * 16 + t / 16 % 2 * 16) (by omega) (by omega)]
    rw [tmod_pos t0, tmod_pos t0, tdiv_pos t0, w64 (x := t % 16 + t % 2) (by omega) (by omega), w64 (x := t / 16) (by omega) (by omega), tmod_pos (x := t / 16) (by omega), w64 (x := 16 * (t / 16)) (by omega) (by omega), w64 (x := 16 * (t / 16 % 2)) (by omega) (by omega), w64 (x := 16 * (t / 16) + 16 * (t / 16 % 2)) (by omega) (by omega)]
    rw [and240 r0 r1, and15 (by omega) (by omega), show (r + 6) % 256 % 16 = (r + 6) % 16 by omega, or_nib (by omega) (by omega) (by omega) (by omega) (by omega)]
    rw [tdiv_pos r0, w64 (x := r / 16) (by omega) (by omega), w64 (x := 16 * (r / 16)) (by omega) (by omega), w64 (x := r + 6) (by omega) (by omega), tmod_pos (x := r + 6) (by omega), w64 (x := 16 * (r / 16) + (r + 6) % 16) (by omega) (by omega), w64 (x := 16 * (r / 16) + (r + 6) % 16 + 96) (by omega) (by omega), tmod_pos (x := 16 * (r / 16) + (r + 6) % 16 + 96) (by omega),
      w64 (x := r + 96) (by omega) (by omega), tmod_pos (x := r + 96) (by omega)]
    rw [uC (V _).1 (V _).2, uC (V _).1 (V _).2, rC (V1 _).1 (V1 _).2, rC (V1 _).1 (V1 _).2]
    simp only [Option.bind_some, pZ_pN]
    have C := fun c b => pC_bd (p := pV (pN (pZ p (r == 0)) (decide (r ≥ 128))) c) (b := b) (V c).1 (V c).2
    by_cases h5 : t % 16 + t % 2 > 5
    · rw [if_pos h5, if_pos h5]
      by_cases h80 : t / 16 * 16 + t / 16 % 2 * 16 > 80
      · rw [if_pos h80, if_pos (by omega), show (16 * (r / 16) + (r + 6) % 16 + 96) % 256 % 256 = (r / 16 * 16 + (r + 6) % 16 + 96) % 256 by omega]
        exact ⟨_, _, rfl, rfl, by omega, by omega, (C _ _).1, (C _ _).2⟩
      · rw [if_neg h80, if_neg (by omega), show (16 * (r / 16) + (r + 6) % 16) % 256 = r / 16 * 16 + (r + 6) % 16 by omega]
        exact ⟨_, _, rfl, rfl, by omega, by omega, (C _ _).1, (C _ _).2⟩
    · rw [if_neg h5, if_neg h5]
      by_cases h80 : t / 16 * 16 + t / 16 % 2 * 16 > 80
      · rw [if_pos h80, if_pos (by omega), show (r + 96) % 256 % 256 = (r + 96) % 256 by omega]
        exact ⟨_, _, rfl, rfl, by omega, by omega, (C _ _).1, (C _ _).2⟩
      · rw [if_neg h80, if_neg (by omega), show r % 256 = r by omega]
        exact ⟨_, _, rfl, rfl, by omega, by omega, (C _ _).1, (C _ _).2⟩
theorem AluParts : tandemlaw3_AluParts.Pure := by
  intro op a m p _ wa wm wp
  obtain ⟨a0, a1⟩ := of_u8 wa
  obtain ⟨m0, m1⟩ := of_u8 wm
  obtain ⟨p0, p1⟩ := of_u8 wp
  refine ⟨11, ?_⟩
  unfold tandemlaw3_AluParts.f
  rw [uNz m0 m1 p0 p1, rNz p0 p1, Option.bind_some, Option.bind_some, if_pos rfl, uCmp p0 p1, rCmp a0 a1 m0 m1 p0 p1, Option.bind_some, Option.bind_some, bne_self_eq_false]
  obtain ⟨r, q, h1, h2, -, -, -, -⟩ := shifts op m0 m1 p0 p1
  obtain ⟨r', q', h3, h4, -, -, -, -⟩ := arr 0 a0 a1 m0 m1 p0 p1
  simp only [tandemlaw3_AluParts.j0, Bool.false_eq_true, if_false]
  rw [h1, h2]
  simp only [Option.bind_some, if_true, bne_self_eq_false]
  simp only [tandemlaw3_AluParts.j1, Bool.false_eq_true, if_false]
  rw [adc 8 a0 a1 m0 m1 p0 p1, rAdc 7 a0 a1 m0 m1 p0 p1]
  simp only [Option.bind_some, if_true, bne_self_eq_false]
  simp only [tandemlaw3_AluParts.j2, Bool.false_eq_true, if_false]
  rw [sbc a0 a1 m0 m1 p0 p1, rSbc 7 a0 a1 m0 m1 p0 p1]
  simp only [Option.bind_some, if_true, bne_self_eq_false]
  simp only [tandemlaw3_AluParts.j3, Bool.false_eq_true, if_false]
  rw [h3, h4]
  simp only [Option.bind_some, if_true, beq_self_eq_true]

end Go.Proofs.Ytajffjhfecckbaa.Pure
