/- For every operation number and every Alu the law AluAccs answers true: Acc is the document's; no condition. -/
import Derived.Test.YtajffjhfecckbaaXAluAccsx2
import Derived.Test.YtajffjhfecckbaaAluBits
import Derived.Test.YtajffjhfecckbaaAluFlag
namespace Go.Proofs.Ytajffjhfecckbaa.Pure
open Go.RowKit Go.Proofs.Ytajffjhfecckbaa.XAluAccs Go.Proofs.YtajffjhfecckbaaW.PrintWords Go.Proofs.YtajffjhfecckbaaW.PrintLast Go.Proofs.YtajffjhfecckbaaW.PrintMore
set_option linter.unusedVariables false
open Go Go.Proofs.Ytajffjhfecckbaa.AB

theorem put1 {p : Int} (h0 : 0 ≤ p) (h1 : p < 256) (b : Bool) : alu_put.f p 1 b = some (p / 2 * 2 + if b = true then 1 else 0) := by
  cases b <;> simp [alu_put.f, no1 h0 h1, or1 h0 h1]
theorem put2 {p : Int} (h0 : 0 ≤ p) (h1 : p < 256) (b : Bool) : alu_put.f p 2 b = some (p / 4 * 4 + (if b = true then 2 else 0) + p % 2) := by
  cases b <;> simp [alu_put.f, no2 h0 h1, or2 h0 h1]
theorem put64 {p : Int} (h0 : 0 ≤ p) (h1 : p < 256) (b : Bool) : alu_put.f p 64 b = some (p / 128 * 128 + (if b = true then 64 else 0) + p % 64) := by
  cases b <;> simp [alu_put.f, no64 h0 h1, or64 h0 h1]
theorem nz {r p : Int} (r0 : 0 ≤ r) (r1 : r < 256) (h0 : 0 ≤ p) (h1 : p < 256) :
    alu_Nz.f r p = some (r / 128 * 128 + p % 128 / 4 * 4 + (if r = 0 then 2 else 0) + p % 2) := by
  unfold alu_Nz.f
  rw [no130 h0 h1, and128 r0 r1]
  by_cases h : r = 0
  · rw [if_pos h, if_pos h, or2 (by omega) (by omega), or_top (by omega) (by omega) (by omega)]; congr 1; omega
  · rw [if_neg h, if_neg h, or_top (by omega) (by omega) (by omega)]; congr 1; omega
/-! ### the flags one by one -/
theorem uC {p : Int} (h0 : 0 ≤ p) (h1 : p < 256) (b : Bool) : alu_put.f p 1 b = some (pC p b) := put1 h0 h1 b
theorem uZ {p : Int} (h0 : 0 ≤ p) (h1 : p < 256) (b : Bool) : alu_put.f p 2 b = some (pZ p b) := put2 h0 h1 b
theorem uV {p : Int} (h0 : 0 ≤ p) (h1 : p < 256) (b : Bool) : alu_put.f p 64 b = some (pV p b) := put64 h0 h1 b
theorem uNz {r p : Int} (r0 : 0 ≤ r) (r1 : r < 256) (h0 : 0 ≤ p) (h1 : p < 256) : alu_Nz.f r p = some (pN (pZ p (r == 0)) (decide (r ≥ 128))) := by
  rw [nz r0 r1 h0 h1]
  congr 1
  by_cases h : r = 0
  · subst h; simp [pN, pZ]; omega
  · by_cases g : r ≥ 128 <;> simp [pN, pZ, h, g] <;> omega
theorem rC {p : Int} (h0 : 0 ≤ p) (h1 : p < 256) (b : Bool) : tandemref3_put.f p 1 b = some (pC p b) := by
  cases b <;> simp [tandemref3_put.f, no1 h0 h1, or1 h0 h1, pC]
theorem rZ {p : Int} (h0 : 0 ≤ p) (h1 : p < 256) (b : Bool) : tandemref3_put.f p 2 b = some (pZ p b) := by
  cases b <;> simp [tandemref3_put.f, no2 h0 h1, or2 h0 h1, pZ]
theorem rV {p : Int} (h0 : 0 ≤ p) (h1 : p < 256) (b : Bool) : tandemref3_put.f p 64 b = some (pV p b) := by
  cases b <;> simp [tandemref3_put.f, no64 h0 h1, or64 h0 h1, pV]
theorem rN {p : Int} (h0 : 0 ≤ p) (h1 : p < 256) (b : Bool) : tandemref3_put.f p 128 b = some (pN p b) := by
  cases b <;> simp [tandemref3_put.f, no128 h0 h1, or128 h0 h1, pN]; omega
theorem rNz {r p : Int} (h0 : 0 ≤ p) (h1 : p < 256) : tandemref3_Nz.f r p = some (pN (pZ p (r == 0)) (decide (r ≥ 128))) := by
  have N := pN_bd (p := p) (b := decide (r ≥ 128)) h0 h1
  unfold tandemref3_Nz.f
  rw [rN h0 h1, Option.bind_some, rZ N.1 N.2, Option.bind_some, pZ_pN]
theorem rRest {x : Int} (h0 : -1000000 ≤ x) (h1 : x ≤ 1000000) : tandemref3_rest.f x 256 = some (x % 256) := by
  unfold tandemref3_rest.f
  have h := @rest_256 x
  rw [if_neg (by decide)]
  by_cases g : Int.tmod x 256 < 0
  · rw [if_pos g] at h ⊢; rw [h, w64 (by omega) (by omega)]
  · rw [if_neg g] at h ⊢; rw [h]
theorem rCarry {p : Int} (h0 : 0 ≤ p) (h1 : p < 256) : tandemref3_carry.f p = some (p % 2) := by
  unfold tandemref3_carry.f; rw [and1 h0 h1, w64 (by omega) (by omega)]
/-! ### shifts -/
theorem bit_out {m : Int} (m0 : 0 ≤ m) (m1 : m < 256) : (m / 128 * 128 != 0) = decide (m ≥ 128) := by
  by_cases h : m ≥ 128
  · rw [show m / 128 = 1 by omega, decide_eq_true h]; rfl
  · rw [show m / 128 = 0 by omega, decide_eq_false h]; rfl
theorem bit_low {m : Int} : (m % 2 != 0) = (m % 2 == 1) := by
  by_cases h : m % 2 = 1
  · rw [h]; rfl
  · rw [show m % 2 = 0 by omega]; rfl
theorem shifts (op : Int) {m p : Int} (m0 : 0 ≤ m) (m1 : m < 256) (p0 : 0 ≤ p) (p1 : p < 256) :
    ∃ r q, alu_Shift.f op m p = some (r, q) ∧ tandemref3_Shift.f op m p = some (r, q) ∧ 0 ≤ r ∧ r < 256 ∧ 0 ≤ q ∧ q < 256 := by
  have fin : ∀ (r : Int) (c : Bool), 0 ≤ r → r < 256 → 0 ≤ pN (pZ (pC p c) (r == 0)) (decide (r ≥ 128)) ∧ pN (pZ (pC p c) (r == 0)) (decide (r ≥ 128)) < 256 := fun r c r0 r1 => by
    have C := pC_bd (p := p) (b := c) p0 p1
    have Z := pZ_bd (p := pC p c) (b := (r == 0)) C.1 C.2
    exact pN_bd Z.1 Z.2
  have hm : wrap64 m = m := w64 (by omega) (by omega)
  have C := fun c => pC_bd (p := p) (b := c) p0 p1
  unfold alu_Shift.f tandemref3_Shift.f
  rw [hm, tmod_pos m0, tdiv_pos m0, w64 (x := 2 * m) (by omega) (by omega), w64 (x := m / 2) (by omega) (by omega), and128 m0 m1, and1 m0 m1, and1 p0 p1, bit_out m0 m1, bit_low, rCarry p0 p1]
  by_cases h2 : op = 2
  · rw [if_pos h2, if_pos h2, uC p0 p1, rC p0 p1, rRest (by omega) (by omega)]
    simp only [Option.bind_some]
    rw [uNz (by omega) (by omega) (C _).1 (C _).2, rNz (C _).1 (C _).2, show 2 * m % 256 % 256 = m * 2 % 256 by omega]
    have F := fin (m * 2 % 256) (decide (m ≥ 128)) (by omega) (by omega)
    exact ⟨_, _, rfl, rfl, by omega, by omega, F.1, F.2⟩
  rw [if_neg h2, if_neg h2]
  by_cases h39 : op = 39
  · rw [if_pos h39, if_pos h39, uC p0 p1, Option.bind_some, or_low (by omega) (by omega) (by omega) (by omega)]
    simp only [Option.bind_some]
    rw [w64 (x := 2 * m + p % 2) (by omega) (by omega), rRest (by omega) (by omega), rC p0 p1]
    simp only [Option.bind_some]
    rw [uNz (by omega) (by omega) (C _).1 (C _).2, rNz (C _).1 (C _).2, show (2 * m + p % 2) % 256 % 256 = m * 2 % 256 + p % 2 by omega]
    have F := fin (m * 2 % 256 + p % 2) (decide (m ≥ 128)) (by omega) (by omega)
    exact ⟨_, _, rfl, rfl, by omega, by omega, F.1, F.2⟩
  rw [if_neg h39, if_neg h39]
  by_cases h32 : op = 32
  · rw [if_pos h32, if_pos h32, uC p0 p1, rC p0 p1, rRest (by omega) (by omega)]
    simp only [Option.bind_some]
    rw [uNz (by omega) (by omega) (C _).1 (C _).2, rNz (C _).1 (C _).2, show m / 2 % 256 % 256 = m / 2 by omega]
    have F := fin (m / 2) (m % 2 == 1) (by omega) (by omega)
    exact ⟨_, _, rfl, rfl, by omega, by omega, F.1, F.2⟩
  rw [if_neg h32, if_neg h32]
  by_cases h40 : op = 40
  · rw [if_pos h40, if_pos h40, uC p0 p1, Option.bind_some, or_top (by omega) (by omega) (by omega)]
    simp only [Option.bind_some]
    rw [w64 (x := 128 * (p % 2)) (by omega) (by omega), w64 (x := m / 2 + 128 * (p % 2)) (by omega) (by omega), rRest (by omega) (by omega), rC p0 p1]
    simp only [Option.bind_some]
    rw [show p % 2 * 128 % 256 = 128 * (p % 2) by omega, uNz (by omega) (by omega) (C _).1 (C _).2, rNz (C _).1 (C _).2, show (m / 2 + 128 * (p % 2)) % 256 % 256 = m / 2 + 128 * (p % 2) by omega]
    have F := fin (m / 2 + 128 * (p % 2)) (m % 2 == 1) (by omega) (by omega)
    exact ⟨_, _, rfl, rfl, by omega, by omega, F.1, F.2⟩
  rw [if_neg h40, if_neg h40]
  exact ⟨m, p, rfl, rfl, m0, m1, p0, p1⟩
theorem pure (op : Int) {A X Y S P M : Int} (wA : (Lit.int .u8 A).wf = true) (wP : (Lit.int .u8 P).wf = true) : tandemlaw3_AluAccs.f op A X Y S P M = some true := by
  obtain ⟨a0, a1⟩ := of_u8 wA
  obtain ⟨p0, p1⟩ := of_u8 wP
  obtain ⟨r, q, h1, h2, -, -, -, -⟩ := shifts op a0 a1 p0 p1
  unfold tandemlaw3_AluAccs.f alu_Acc.f tandemref3_Acc.f
  rw [h1, h2]
  simp only [Option.bind_some, beq_self_eq_true, Bool.and_true]
theorem AluAccs (op A X Y S P M : Int) (w : World) (_ : (Lit.int .i64 op).wf = true) (wA : (Lit.int .u8 A).wf = true) (_ : (Lit.int .u8 X).wf = true) (_ : (Lit.int .u8 Y).wf = true) (_ : (Lit.int .u8 S).wf = true) (wP : (Lit.int .u8 P).wf = true) (_ : (Lit.int .u8 M).wf = true) :
    Calls Try.prog 6 #[.int .i64 op, .agg #[.int .u8 A, .int .u8 X, .int .u8 Y, .int .u8 S, .int .u8 P, .int .u8 M]] w fun e w' => e = .returned (.bool true) ∧ Below w.heap.size w w' :=
  tandemlaw3_AluAccs.calls op A X Y S P M true w (pure op wA wP)

end Go.Proofs.Ytajffjhfecckbaa.Pure
