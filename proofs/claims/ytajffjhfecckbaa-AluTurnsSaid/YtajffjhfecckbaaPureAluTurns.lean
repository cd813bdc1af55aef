/- For every byte and all flags the law AluTurns answers true: nine times ROL bring a byte and C back, and ROR takes each ROL back; no condition. -/
import Derived.Test.YtajffjhfecckbaaPAluTurnsx1
import Derived.Test.YtajffjhfecckbaaAluBits
namespace Go.Proofs.Ytajffjhfecckbaa.Pure
open Go.RowKit Go.Proofs.Ytajffjhfecckbaa.PAluTurns Go.Proofs.YtajffjhfecckbaaW.PrintWords Go.Proofs.YtajffjhfecckbaaW.PrintLast Go.Proofs.YtajffjhfecckbaaW.PrintMore
open Go Go.Proofs.Ytajffjhfecckbaa.AB

theorem put1 {p : Int} (h0 : 0 ≤ p) (h1 : p < 256) (b : Bool) : alu_put.f p 1 b = some (p / 2 * 2 + if b = true then 1 else 0) := by
  cases b <;> simp [alu_put.f, no1 h0 h1, or1 h0 h1]
theorem put2 {p : Int} (h0 : 0 ≤ p) (h1 : p < 256) (b : Bool) : alu_put.f p 2 b = some (p / 4 * 4 + (if b = true then 2 else 0) + p % 2) := by
  cases b <;> simp [alu_put.f, no2 h0 h1, or2 h0 h1]
theorem put64 {p : Int} (h0 : 0 ≤ p) (h1 : p < 256) (b : Bool) : alu_put.f p 64 b = some (p / 128 * 128 + (if b = true then 64 else 0) + p % 64) := by
  cases b <;> simp [alu_put.f, no64 h0 h1, or64 h0 h1]
theorem nz {r p : Int} (r0 : 0 ≤ r) (r1 : r < 256) (h0 : 0 ≤ p) (h1 : p < 256) :
    alu_Nz.f r p = some (r / 128 * 128 + p % 128 / 4 * 4 + (if r = 0 then 2 else 0) + p % 2) := by
  unfold alu_Nz.f
  rw [no130 h0 h1, and128 r0 r1]
  by_cases h : r = 0
  · rw [if_pos h, if_pos h, or2 (by omega) (by omega), or_top (by omega) (by omega) (by omega)]; congr 1; omega
  · rw [if_neg h, if_neg h, or_top (by omega) (by omega) (by omega)]; congr 1; omega
theorem has1 {p : Int} (h0 : 0 ≤ p) (h1 : p < 256) : tandemlaw3_has.f p 1 = some (decide (p % 2 = 1)) := by
  unfold tandemlaw3_has.f; rw [and1 h0 h1]; congr 1
  by_cases h : p % 2 = 1
  · rw [h]; rfl
  · rw [show p % 2 = 0 by omega]; rfl
theorem has2 {p : Int} (h0 : 0 ≤ p) (h1 : p < 256) : tandemlaw3_has.f p 2 = some (decide (p / 2 % 2 = 1)) := by
  unfold tandemlaw3_has.f; rw [and2 h0 h1]; congr 1
  by_cases h : p / 2 % 2 = 1
  · rw [h]; rfl
  · rw [show p / 2 % 2 = 0 by omega]; rfl
theorem has64 {p : Int} (h0 : 0 ≤ p) (h1 : p < 256) : tandemlaw3_has.f p 64 = some (decide (p / 64 % 2 = 1)) := by
  unfold tandemlaw3_has.f; rw [and64 h0 h1]; congr 1
  by_cases h : p / 64 % 2 = 1
  · rw [h]; rfl
  · rw [show p / 64 % 2 = 0 by omega]; rfl
theorem has128 {p : Int} (h0 : 0 ≤ p) (h1 : p < 256) : tandemlaw3_has.f p 128 = some (decide (p / 128 = 1)) := by
  unfold tandemlaw3_has.f; rw [and128 h0 h1]; congr 1
  by_cases h : p / 128 = 1
  · rw [h]; rfl
  · rw [show p / 128 = 0 by omega]; rfl
theorem rol {m p : Int} (m0 : 0 ≤ m) (m1 : m < 256) (p0 : 0 ≤ p) (p1 : p < 256) :
    alu_Shift.f 39 m p = some (m * 2 % 256 + p % 2, mkP p ((m * 2 % 256 + p % 2) / 128) (p / 64 % 2) (if m * 2 % 256 + p % 2 = 0 then 1 else 0) (m / 128)) := by
  unfold alu_Shift.f
  rw [if_neg (by decide), if_pos rfl, and128 m0 m1, and1 p0 p1, put1 p0 p1, Option.bind_some, or_low (by omega) (by omega) (by omega) (by omega), nz (by omega) (by omega) (by split <;> omega) (by split <;> omega), Option.bind_some]
  simp only [Option.some.injEq, Prod.mk.injEq, true_and, mkP]
  have h : (if (m / 128 * 128 != 0) = true then (1 : Int) else 0) = m / 128 := by
    by_cases h : m / 128 = 0
    · rw [h]; rfl
    · rw [show m / 128 = 1 by omega]; rfl
  rw [h]; split <;> omega
theorem ror {m p : Int} (m0 : 0 ≤ m) (m1 : m < 256) (p0 : 0 ≤ p) (p1 : p < 256) :
    alu_Shift.f 40 m p = some (m / 2 + p % 2 * 128, mkP p ((m / 2 + p % 2 * 128) / 128) (p / 64 % 2) (if m / 2 + p % 2 * 128 = 0 then 1 else 0) (m % 2)) := by
  unfold alu_Shift.f
  rw [if_neg (by decide), if_neg (by decide), if_neg (by decide), if_pos rfl, and1 m0 m1, and1 p0 p1, put1 p0 p1, Option.bind_some, or_top (by omega) (by omega) (by omega), show p % 2 * 128 % 256 = p % 2 * 128 by omega, nz (by omega) (by omega) (by split <;> omega) (by split <;> omega), Option.bind_some]
  simp only [Option.some.injEq, Prod.mk.injEq, true_and, mkP]
  have h : (if (m % 2 != 0) = true then (1 : Int) else 0) = m % 2 := by
    by_cases h : m % 2 = 0
    · rw [h]; rfl
    · rw [show m % 2 = 1 by omega]; rfl
  rw [h]; split <;> omega
theorem round (k : Nat) {i j r q m p : Int} (hj : j = i + 1) (i0 : 0 ≤ i) (i1 : i < 9) (r0 : 0 ≤ r) (r1 : r < 256) (q0 : 0 ≤ q) (q1 : q < 256)
    (hb : i < 8 → shr .u8 m (7 - i) % 2 = r / 128 ∧ 0 ≤ shr .u8 m (7 - i) ∧ shr .u8 m (7 - i) < 256) :
    ∃ R Q, tandemlaw3_AluTurns.l0 (k + 3) m p r q i = tandemlaw3_AluTurns.l0 k m p R Q j ∧ 0 ≤ R ∧ R < 256 ∧ 0 ≤ Q ∧ Q < 256 ∧ R = 2 * r - 256 * (r / 128) + q % 2 ∧ Q % 2 = r / 128 := by
  have hQ := mkP_bd (p := q) (n := (r * 2 % 256 + q % 2) / 128) (v := q / 64 % 2) (z := if r * 2 % 256 + q % 2 = 0 then 1 else 0) (c := r / 128) q0 q1 (by omega) (by omega) (by omega) (by omega) (it01 _).1 (it01 _).2 (by omega) (by omega)
  have hC : mkP q ((r * 2 % 256 + q % 2) / 128) (q / 64 % 2) (if r * 2 % 256 + q % 2 = 0 then 1 else 0) (r / 128) % 2 = r / 128 := by rw [mkP_c]; omega
  have hZ : mkP q ((r * 2 % 256 + q % 2) / 128) (q / 64 % 2) (if r * 2 % 256 + q % 2 = 0 then 1 else 0) (r / 128) / 2 % 2 = if r * 2 % 256 + q % 2 = 0 then 1 else 0 := mkP_z (it01 _).1 (it01 _).2 (by omega) (by omega)
  have hN : mkP q ((r * 2 % 256 + q % 2) / 128) (q / 64 % 2) (if r * 2 % 256 + q % 2 = 0 then 1 else 0) (r / 128) / 128 = (r * 2 % 256 + q % 2) / 128 := mkP_n q0 (by omega) (by omega) (it01 _).1 (it01 _).2 (by omega) (by omega)
  have hR : 0 ≤ r * 2 % 256 + q % 2 ∧ r * 2 % 256 + q % 2 < 256 := by omega
  have hr := rol r0 r1 q0 q1
  generalize hRe : r * 2 % 256 + q % 2 = R at *
  generalize mkP q (R / 128) (q / 64 % 2) (if R = 0 then 1 else 0) (r / 128) = Q at *
  refine ⟨R, Q, ?_, hR.1, hR.2, hQ.1, hQ.2, by omega, hC⟩
  have h1 : tandemlaw3_AluTurns.l0 (k + 3) m p r q i = tandemlaw3_AluTurns.j1 (k + 2) m p r q i R Q false := by
    simp only [tandemlaw3_AluTurns.l0]
    rw [if_pos i1, hr, Option.bind_some]
    by_cases h8 : i < 8
    · obtain ⟨b1, b2, b3⟩ := hb h8
      rw [if_pos h8, has1 hQ.1 hQ.2, Option.bind_some, w64 (by omega) (by omega), wu64 (by omega) (by omega), if_pos (by omega), and1 b2 b3, b1, hC]
      congr 1
      by_cases h : r / 128 = 1
      · rw [h]; rfl
      · rw [show r / 128 = 0 by omega]; rfl
    · rw [if_neg h8]
  have h2 : tandemlaw3_AluTurns.j1 (k + 2) m p r q i R Q false = tandemlaw3_AluTurns.j2 (k + 1) m p r q i R Q false := by
    simp only [tandemlaw3_AluTurns.j1, Bool.false_eq_true, if_false]
    rw [has1 hR.1 hR.2, Option.bind_some, has1 q0 q1, Option.bind_some, show R % 2 = q % 2 by omega, if_neg (by simp), has2 hQ.1 hQ.2, Option.bind_some, hZ]
    rw [if_neg (by by_cases h : R = 0 <;> simp [h]), has128 hQ.1 hQ.2, Option.bind_some, hN]
    congr 1
    by_cases h : R ≥ 128
    · simp [h]; omega
    · simp [h]; omega
  have h3 : tandemlaw3_AluTurns.j2 (k + 1) m p r q i R Q false = tandemlaw3_AluTurns.l0 k m p R Q j := by
    have hs := mkP_bd (p := Q) (n := (R / 2 + Q % 2 * 128) / 128) (v := Q / 64 % 2) (z := if R / 2 + Q % 2 * 128 = 0 then 1 else 0) (c := R % 2) hQ.1 hQ.2 (by omega) (by omega) (by omega) (by omega) (it01 _).1 (it01 _).2 (by omega) (by omega)
    simp only [tandemlaw3_AluTurns.j2, Bool.false_eq_true, if_false]
    rw [ror hR.1 hR.2 hQ.1 hQ.2, Option.bind_some]
    simp only []
    rw [if_pos (by omega), has1 hs.1 hs.2, Option.bind_some, has1 q0 q1, Option.bind_some, mkP_c, show R % 2 % 2 = q % 2 by omega, if_neg (by simp), w64 (by omega) (by omega), hj]
  rw [h1, h2, h3]

theorem shr_at (m : Int) : shr .u8 m 7 = m / 128 ∧ shr .u8 m 6 = m / 64 ∧ shr .u8 m 5 = m / 32 ∧ shr .u8 m 4 = m / 16 ∧ shr .u8 m 3 = m / 8 ∧ shr .u8 m 2 = m / 4 ∧ shr .u8 m 1 = m / 2 ∧ shr .u8 m 0 = m := by
  refine ⟨rfl, rfl, rfl, rfl, rfl, rfl, rfl, ?_⟩
  show m / 1 = m; omega
theorem bits_of (m : Int) (m0 : 0 ≤ m) (m1 : m < 256) : ∃ h7 h6 h5 h4 h3 h2 h1 h0 : Int, (0 ≤ h7 ∧ h7 ≤ 1) ∧ (0 ≤ h6 ∧ h6 ≤ 1) ∧ (0 ≤ h5 ∧ h5 ≤ 1) ∧ (0 ≤ h4 ∧ h4 ≤ 1) ∧ (0 ≤ h3 ∧ h3 ≤ 1) ∧ (0 ≤ h2 ∧ h2 ≤ 1) ∧ (0 ≤ h1 ∧ h1 ≤ 1) ∧ (0 ≤ h0 ∧ h0 ≤ 1) ∧
      m = 128 * h7 + 64 * h6 + 32 * h5 + 16 * h4 + 8 * h3 + 4 * h2 + 2 * h1 + h0 ∧ m / 128 % 2 = h7 ∧ m / 64 % 2 = h6 ∧ m / 32 % 2 = h5 ∧ m / 16 % 2 = h4 ∧ m / 8 % 2 = h3 ∧ m / 4 % 2 = h2 ∧ m / 2 % 2 = h1 ∧ m % 2 = h0 :=
    ⟨m / 128 % 2, m / 64 % 2, m / 32 % 2, m / 16 % 2, m / 8 % 2, m / 4 % 2, m / 2 % 2, m % 2, by omega, by omega, by omega, by omega, by omega, by omega, by omega, by omega, by omega, rfl, rfl, rfl, rfl, rfl, rfl, rfl, rfl⟩
/-- The top of eight bits, and what is left behind a turn. -/
theorem top_of {x7 x6 x5 x4 x3 x2 x1 x0 c r : Int} (_a7 : 0 ≤ x7 ∧ x7 ≤ 1) (a6 : 0 ≤ x6 ∧ x6 ≤ 1) (a5 : 0 ≤ x5 ∧ x5 ≤ 1) (a4 : 0 ≤ x4 ∧ x4 ≤ 1) (a3 : 0 ≤ x3 ∧ x3 ≤ 1) (a2 : 0 ≤ x2 ∧ x2 ≤ 1) (a1 : 0 ≤ x1 ∧ x1 ≤ 1) (a0 : 0 ≤ x0 ∧ x0 ≤ 1)
    (h : r = 128 * x7 + 64 * x6 + 32 * x5 + 16 * x4 + 8 * x3 + 4 * x2 + 2 * x1 + x0) : r / 128 = x7 ∧ 2 * r - 256 * (r / 128) + c = 128 * x6 + 64 * x5 + 32 * x4 + 16 * x3 + 8 * x2 + 4 * x1 + 2 * x0 + c := by
  have e : r / 128 = x7 := by omega
  rw [e]; omega
set_option maxHeartbeats 2000000 in
theorem AluTurns : tandemlaw3_AluTurns.Pure := by
  intro m p wm wp
  obtain ⟨m0, m1⟩ := of_u8 wm
  obtain ⟨p0, p1⟩ := of_u8 wp
  obtain ⟨s7, s6, s5, s4, s3, s2, s1, s0⟩ := shr_at m
  refine ⟨28, ?_⟩
  unfold tandemlaw3_AluTurns.f
  obtain ⟨h7, h6, h5, h4, h3, h2, h1, h0, H7, H6, H5, H4, H3, H2, H1, H0, V0, b7, b6, b5, b4, b3, b2, b1, b0⟩ := bits_of m m0 m1
  obtain ⟨c, hc⟩ : ∃ c, p % 2 = c := ⟨_, rfl⟩
  have C : 0 ≤ c ∧ c ≤ 1 := by omega
  have q0 := hc
  have T0 := top_of (c := c) H7 H6 H5 H4 H3 H2 H1 H0 V0
  obtain ⟨R1, Q1, e1, a1, c1, d1, f1, v1, q1⟩ := round 25 (i := 0) (j := 1) (m := m) (p := p) (r := m) (q := p) (by decide) (by decide) (by decide) m0 m1 p0 p1 (fun _ => by rw [show (7 : Int) - 0 = 7 from rfl, s7]; exact ⟨by rw [b7, T0.1], by omega, by omega⟩)
  rw [q0, T0.2] at v1
  rw [T0.1] at q1
  have V1 : R1 = 128 * h6 + 64 * h5 + 32 * h4 + 16 * h3 + 8 * h2 + 4 * h1 + 2 * h0 + c := v1
  have T1 := top_of (c := h7) H6 H5 H4 H3 H2 H1 H0 C V1
  obtain ⟨R2, Q2, e2, a2, c2, d2, f2, v2, q2⟩ := round 22 (i := 1) (j := 2) (m := m) (p := p) (r := R1) (q := Q1) (by decide) (by decide) (by decide) a1 c1 d1 f1 (fun _ => by rw [show (7 : Int) - 1 = 6 from rfl, s6]; exact ⟨by rw [b6, T1.1], by omega, by omega⟩)
  rw [q1, T1.2] at v2
  rw [T1.1] at q2
  have V2 : R2 = 128 * h5 + 64 * h4 + 32 * h3 + 16 * h2 + 8 * h1 + 4 * h0 + 2 * c + h7 := v2
  have T2 := top_of (c := h6) H5 H4 H3 H2 H1 H0 C H7 V2
  obtain ⟨R3, Q3, e3, a3, c3, d3, f3, v3, q3⟩ := round 19 (i := 2) (j := 3) (m := m) (p := p) (r := R2) (q := Q2) (by decide) (by decide) (by decide) a2 c2 d2 f2 (fun _ => by rw [show (7 : Int) - 2 = 5 from rfl, s5]; exact ⟨by rw [b5, T2.1], by omega, by omega⟩)
  rw [q2, T2.2] at v3
  rw [T2.1] at q3
  have V3 : R3 = 128 * h4 + 64 * h3 + 32 * h2 + 16 * h1 + 8 * h0 + 4 * c + 2 * h7 + h6 := v3
  have T3 := top_of (c := h5) H4 H3 H2 H1 H0 C H7 H6 V3
  obtain ⟨R4, Q4, e4, a4, c4, d4, f4, v4, q4⟩ := round 16 (i := 3) (j := 4) (m := m) (p := p) (r := R3) (q := Q3) (by decide) (by decide) (by decide) a3 c3 d3 f3 (fun _ => by rw [show (7 : Int) - 3 = 4 from rfl, s4]; exact ⟨by rw [b4, T3.1], by omega, by omega⟩)
  rw [q3, T3.2] at v4
  rw [T3.1] at q4
  have V4 : R4 = 128 * h3 + 64 * h2 + 32 * h1 + 16 * h0 + 8 * c + 4 * h7 + 2 * h6 + h5 := v4
  have T4 := top_of (c := h4) H3 H2 H1 H0 C H7 H6 H5 V4
  obtain ⟨R5, Q5, e5, a5, c5, d5, f5, v5, q5⟩ := round 13 (i := 4) (j := 5) (m := m) (p := p) (r := R4) (q := Q4) (by decide) (by decide) (by decide) a4 c4 d4 f4 (fun _ => by rw [show (7 : Int) - 4 = 3 from rfl, s3]; exact ⟨by rw [b3, T4.1], by omega, by omega⟩)
  rw [q4, T4.2] at v5
  rw [T4.1] at q5
  have V5 : R5 = 128 * h2 + 64 * h1 + 32 * h0 + 16 * c + 8 * h7 + 4 * h6 + 2 * h5 + h4 := v5
  have T5 := top_of (c := h3) H2 H1 H0 C H7 H6 H5 H4 V5
  obtain ⟨R6, Q6, e6, a6, c6, d6, f6, v6, q6⟩ := round 10 (i := 5) (j := 6) (m := m) (p := p) (r := R5) (q := Q5) (by decide) (by decide) (by decide) a5 c5 d5 f5 (fun _ => by rw [show (7 : Int) - 5 = 2 from rfl, s2]; exact ⟨by rw [b2, T5.1], by omega, by omega⟩)
  rw [q5, T5.2] at v6
  rw [T5.1] at q6
  have V6 : R6 = 128 * h1 + 64 * h0 + 32 * c + 16 * h7 + 8 * h6 + 4 * h5 + 2 * h4 + h3 := v6
  have T6 := top_of (c := h2) H1 H0 C H7 H6 H5 H4 H3 V6
  obtain ⟨R7, Q7, e7, a7, c7, d7, f7, v7, q7⟩ := round 7 (i := 6) (j := 7) (m := m) (p := p) (r := R6) (q := Q6) (by decide) (by decide) (by decide) a6 c6 d6 f6 (fun _ => by rw [show (7 : Int) - 6 = 1 from rfl, s1]; exact ⟨by rw [b1, T6.1], by omega, by omega⟩)
  rw [q6, T6.2] at v7
  rw [T6.1] at q7
  have V7 : R7 = 128 * h0 + 64 * c + 32 * h7 + 16 * h6 + 8 * h5 + 4 * h4 + 2 * h3 + h2 := v7
  have T7 := top_of (c := h1) H0 C H7 H6 H5 H4 H3 H2 V7
  obtain ⟨R8, Q8, e8, a8, c8, d8, f8, v8, q8⟩ := round 4 (i := 7) (j := 8) (m := m) (p := p) (r := R7) (q := Q7) (by decide) (by decide) (by decide) a7 c7 d7 f7 (fun _ => by rw [show (7 : Int) - 7 = 0 from rfl, s0]; exact ⟨by rw [b0, T7.1], by omega, by omega⟩)
  rw [q7, T7.2] at v8
  rw [T7.1] at q8
  have V8 : R8 = 128 * c + 64 * h7 + 32 * h6 + 16 * h5 + 8 * h4 + 4 * h3 + 2 * h2 + h1 := v8
  have T8 := top_of (c := h0) C H7 H6 H5 H4 H3 H2 H1 V8
  obtain ⟨R9, Q9, e9, a9, c9, d9, f9, v9, q9⟩ := round 1 (i := 8) (j := 9) (m := m) (p := p) (r := R8) (q := Q8) (by decide) (by decide) (by decide) a8 c8 d8 f8 (fun h => absurd h (by decide))
  rw [q8, T8.2] at v9
  rw [T8.1] at q9
  have V9 : R9 = 128 * h7 + 64 * h6 + 32 * h5 + 16 * h4 + 8 * h3 + 4 * h2 + 2 * h1 + h0 := v9
  rw [e1, e2, e3, e4, e5, e6, e7, e8, e9]
  simp only [tandemlaw3_AluTurns.l0]
  rw [if_neg (by decide), if_pos (by rw [V9, V0]), has1 d9 f9, Option.bind_some, has1 p0 p1, Option.bind_some, q9, q0]
  simp

end Go.Proofs.Ytajffjhfecckbaa.Pure
