/- The law's walk: with five steps rounds of 37282 cycles, never an interrupt. -/
import Derived.Test.YthndmfgmlbdekaaDoorTl13
namespace Go.Proofs.YthndmfgmlbdekaaDoor.Ev
open Go Go.RowKit
set_option linter.unusedVariables false
set_option linter.unusedSimpArgs false
set_option linter.constructorNameAsVariable false
def c0V (a : Int) : Clk := K.write K.zero 16407 128 a
def jV (d : Int) : Int := (msk d).tmod 37282
def nV (a b d : Int) : Int := IntKind.i64.wrap (IntKind.i64.wrap (wF a + IntKind.i64.wrap (KF b * 37282)) + jV d)
def CV (a b d : Int) : Clk := K.adv (c0V a) (nV a b d)
theorem ev14 (a b d : Int) : vals (evFn (Cb.with spG) 1 (fun _ => none) Tryd.f14 Cb.H0 3 [vint .i64 (.sym a), vint .i64 (.sym b), vint .i64 (.sym d)]) =
  .node true (.node (okI (c0V a) (nV a b d)) (.node (IntKind.i64.wrap (CV a b d).pl == jV d) (.node ((CV a b d).wa == 0) (.node (CV a b d).fi (.node (IntKind.i64.wrap (CV a b d).be == (IntKind.i64.wrap (IntKind.i64.wrap (1 + IntKind.i64.wrap (4 * KF b)) + K.marks (jV d) 37281)).tmod 64)
    (.node (K.okC (CV a b d)) (.node (!K.irq (CV a b d)) (.node (K.okC (CV a b d)) (.leaf (vbool (.sym (K.next (CV a b d) == 4611686018427387904)))) .bad) FF) .bad) FF) FF) FF) FF) .bad) .bad := by kernel_rfl
theorem law14 (a b d : Int) (ha : -9223372036854775808 ≤ a ∧ a < 9223372036854775808) (hb : -9223372036854775808 ≤ b ∧ b < 9223372036854775808) (hd : -9223372036854775808 ≤ d ∧ d < 9223372036854775808) :
    ∃ v', (vals (evFn (Cb.with spG) 1 (fun _ => none) Tryd.f14 Cb.H0 3 [vint .i64 (.sym a), vint .i64 (.sym b), vint .i64 (.sym d)])).get = some v' ∧ ∀ ρ, v'.den ρ = some (.bool true) := by
  obtain ⟨m0, m1⟩ := msk_in d
  have eK : KF b = b % 4294967296 := b32_eq b
  have K0 : 0 ≤ KF b := by rw [eK]; exact Int.emod_nonneg _ (by decide)
  have K1 : KF b < 4294967296 := by rw [eK]; exact Int.emod_lt_of_pos _ (by decide)
  have eJ : jV d = msk d % 37282 := by unfold jV; rw [Int.tmod_eq_emod_of_nonneg m0]
  have J0 : 0 ≤ jV d := by rw [eJ]; exact Int.emod_nonneg _ (by decide)
  have J1 : jV d < 37282 := by rw [eJ]; exact Int.emod_lt_of_pos _ (by decide)
  have M := marks_in (jV d) 37281
  have hw : wF a = 3 + a % 2 := by unfold wF; rw [bone64, wi64 (by omega) (by omega)]
  have hw2 : wF a = 3 ∨ wF a = 4 := by omega
  have ec : c0V a = { K.zero with fi := true, wa := wF a } := by
    rw [hw]; unfold c0V K.write
    rw [if_neg (by decide), if_pos rfl]
    show Clk.mk 0 0 0 0 0 false false (decide ((128 : Int) ≥ 128)) (decide ((128 : Int) / 64 % 2 = 1)) (false && !decide ((128 : Int) / 64 % 2 = 1)) 0 (if a % 2 = 1 then 4 else 3) 0 = Clk.mk 0 0 0 0 0 false false true false false 0 (3 + a % 2) 0
    rw [show (if a % 2 = 1 then (4 : Int) else 3) = 3 + a % 2 by split <;> omega]
    rfl
  have en : nV a b d = wF a + (KF b * K.rnd true + jV d) := by
    show IntKind.i64.wrap (IntKind.i64.wrap (wF a + IntKind.i64.wrap (KF b * 37282)) + jV d) = wF a + (KF b * 37282 + jV d)
    rw [wi64 (x := KF b * 37282) (by omega) (by omega), wi64 (x := wF a + KF b * 37282) (by omega) (by omega), wi64 (by omega) (by omega)]
    omega
  have n1 : nV a b d < 9223372036854775808 := by rw [en]; show wF a + (KF b * 37282 + jV d) < _; omega
  have n0 : 0 ≤ nV a b d := by rw [en]; show 0 ≤ wF a + (KF b * 37282 + jV d); omega
  have eC : CV a b d = { K.seq0 true 0 with fr := !true && decide (KF b ≥ 1 ∨ jV d ≥ 29828), pl := jV d, be := ((bif true then 1 else 0) + 4 * KF b + K.marks (jV d) (K.lastB true)) % 64 } := by
    unfold CV
    rw [ec, en]
    exact begun hw2 K0 J0 J1
  have hok : K.okv (c0V a) = true := by rw [ec]; rcases hw2 with e | e <;> rw [e] <;> decide
  have hcC : K.okC (CV a b d) = true := okC_adv (okv_iff.1 hok).1
  have hcV : K.valid (CV a b d) = true := (okv_iff.1 (okv_adv hok)).2
  have cp : (CV a b d).pl = jV d := by rw [eC]
  have cw : (CV a b d).wa = 0 := by rw [eC]; rfl
  have ci : (CV a b d).fi = true := by rw [eC]; rfl
  have cb : (CV a b d).be = (1 + 4 * KF b + K.marks (jV d) 37281) % 64 := by rw [eC]; rfl
  have ei : K.irq (CV a b d) = false := by
    unfold K.irq
    rw [hcV, show (CV a b d).fl = false by rw [eC]; rfl, show (CV a b d).fr = false by rw [eC]; rfl]
    simp
  have x1 : K.next (CV a b d) = 4611686018427387904 := by
    rw [next_low (okv_iff.2 ⟨hcC, hcV⟩) ei]
    have e1 : K.nf (CV a b d) = K.never := by unfold K.nf; rw [ci]; rfl
    have e2 : K.no (CV a b d) = K.never := by unfold K.no; rw [show (CV a b d).ct = 0 by rw [eC]; rfl]; rfl
    rw [e1, e2]; rfl
  have r0 : 0 ≤ (1 + 4 * KF b + K.marks (jV d) 37281) % 64 := Int.emod_nonneg _ (by decide)
  have r1 : (1 + 4 * KF b + K.marks (jV d) 37281) % 64 < 64 := Int.emod_lt_of_pos _ (by decide)
  rw [ev14, okI_t (okv_iff.1 hok).1 (by omega) (by omega), cp, cw, ci, cb, hcC, ei, x1,
    wi64 (x := jV d) (by omega) (by omega), wi64 (x := (1 + 4 * KF b + K.marks (jV d) 37281) % 64) (by omega) (by omega), wi64 (x := 4 * KF b) (by omega) (by omega), wi64 (x := 1 + 4 * KF b) (by omega) (by omega), wi64 (x := 1 + 4 * KF b + K.marks (jV d) 37281) (by omega) (by omega), Int.tmod_eq_emod_of_nonneg (by omega)]
  simp only [beq_self_eq_true]
  exact ⟨_, rfl, fun _ => rfl⟩
end Go.Proofs.YthndmfgmlbdekaaDoor.Ev
namespace Go.Proofs.YthndmfgmlbdekaaDoor.Pure
open Go Go.RowKit Go.Proofs.YthndmfgmlbdekaaDoor.Ev
set_option linter.unusedVariables false
theorem TimerFives (a0 : Int) (a1 : Int) (a2 : Int) (w : World) (h0 : (Lit.int .i64 a0).wf = true) (h1 : (Lit.int .i64 a1).wf = true) (h2 : (Lit.int .i64 a2).wf = true) (G : Ev.GOk Ev.Cb w) :
    Calls Tryd.prog 14 #[.int .i64 a0, .int .i64 a1, .int .i64 a2] w fun e w' => e = .returned (.bool true) ∧ Below w.heap.size w w' := by
  obtain ⟨v, h, hv⟩ := Ev.law14 a0 a1 a2 (of_i64 h0) (of_i64 h1) (of_i64 h2)
  exact calls_of_ev (C := Cb.with spG) goodG.ok goodG.hs goodG.hb gsNodup Tryd.func14 keep_none G rfl h hv
end Go.Proofs.YthndmfgmlbdekaaDoor.Pure
